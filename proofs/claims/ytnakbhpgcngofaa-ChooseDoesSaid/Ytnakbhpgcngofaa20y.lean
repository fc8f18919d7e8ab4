/- Contracts of layer 20: configs copied by the kit; the document's chooser. Conditions: as each states. -/
import Derived.Test.Ytnakbhpgcngofaa20x
import Derived.Test.Ytnakbhpgcngofaa20q
namespace Go.Bd
open Go.Proofs
set_option linter.unusedVariables false
set_option maxRecDepth 20000

section
variable {F : Env} {w : World} {Ls : List Blks}
theorem copyM_c {A : Option Addr} {n c : Nat} {ms : List Mb} (hm : Mem F w Ls) (hn : n * 32 ≤ 140737488355328) (hr : MRow F.heap A n ms) :
    Calls Try.prog 51 #[.slice A n c] w (Ret fun v w' => ∃ A' c' L, v = .slice A' n c' ∧ OwnS 99 4 A' n c' (mcells ms) L ∧ Mem F w' (L :: Ls)) := by
  replace hm := hm.nil_
  refine Calls.of_vc Try.func51 rfl Try.ntmps51 rfl ?_
  repeat (first | refine VC.seq ?_ | refine VC.block ?_ | refine VC.skip ?_)
  refine VC.region ?_
  refine VR.pure rfl rfl (p_assignL rfl) ?_
  refine VR.nil ?_
  repeat (first | refine VC.seq ?_ | refine VC.block ?_ | refine VC.skip ?_)
  refine VC.region ?_
  refine VR.pure rfl rfl (p_assignL rfl) ?_
  refine VR.nil ?_
  repeat (first | refine VC.seq ?_ | refine VC.block ?_ | refine VC.skip ?_)
  refine VC.region ?_
  refine VR.pure rfl rfl (p_moveL rfl) ?_
  refine VR.pure rfl rfl (p_moveL rfl) ?_
  refine VR.append (s := 4) (bytes := 32) Try.underlying40 inf99 rfl rfl rfl rfl rfl rfl rfl rfl rfl hm (OwnS.nil _ _) (hr.mono hm.fix) (mcells_one ms) (Nat.zero_add n) ⟨by unfold maxLen; omega, by omega⟩ ?_
  intro A' c' w L' ho' hm
  refine VR.pure rfl rfl (p_assignL rfl) ?_
  refine VR.nil ?_
  repeat (first | refine VC.seq ?_ | refine VC.block ?_ | refine VC.skip ?_)
  refine VC.ret ⟨_, ResOf.r1 (v := .slice _ _ _) rfl rfl, ?_⟩
  exact ⟨A', c', L', rfl, ho', hm⟩
theorem copyE_c {e : En} (hm : Mem F w Ls) (hn : e.n * 32 ≤ 140737488355328) (hr : MRow F.heap e.A e.n e.ms) :
    Calls Try.prog 31 #[.agg #[.int .i64 e.ver, .slice e.A e.n e.c]] w (Ret fun v w' => ∃ A' c' L, v = .agg #[.int .i64 e.ver, .slice A' e.n c'] ∧ OwnS 99 4 A' e.n c' (mcells e.ms) L ∧ Mem F w' (L :: Ls)) := by
  refine Calls.of_vc Try.func31 rfl Try.ntmps31 rfl ?_
  repeat (first | refine VC.seq ?_ | refine VC.block ?_ | refine VC.skip ?_)
  refine VC.region ?_
  refine VR.new hm rfl rfl (n_boxG rfl) ?_
  intro b1 w hm
  refine VR.new hm rfl rfl (n_allocG Try.zeroValue42) ?_
  intro b2 w hm
  refine VR.nil ?_
  repeat (first | refine VC.seq ?_ | refine VC.block ?_ | refine VC.skip ?_)
  refine VC.region ?_
  refine VR.pure rfl rfl (p_field (fo := 1) Try.underlying42 rfl Try.sizeOf40 rfl rfl rfl) ?_
  refine VR.val rfl rfl (r_load (v := .slice _ _ _) Try.isAgg40 rfl (hm.at_ 1 0 rfl) rfl) ?_
  refine VR.call rfl rfl (r_call1 Try.call51 rfl) (copyM_c hm hn hr) ?_
  rintro _ w ⟨A2, c2, L2, rfl, ho, hm⟩
  refine VR.pure rfl rfl (p_field (fo := 1) Try.underlying42 rfl Try.sizeOf40 rfl rfl rfl) ?_
  refine VR.store (cs' := #[.int .i64 e.ver, .slice A2 e.n c2]) (v := .slice _ _ _) Try.sizeOf40 rfl rfl rfl rfl rfl hm 2 0 rfl (Nat.ble_eq.mp rfl) rfl ?_
  intro w hm
  refine VR.nil ?_
  repeat (first | refine VC.seq ?_ | refine VC.block ?_ | refine VC.skip ?_)
  refine VC.region ?_
  refine VR.val rfl rfl (r_loadAgg (vs := [.int _ _, .slice _ _ _]) Try.isAgg42 Try.sizeOf42 rfl (hm.at_ 2 0 rfl) rfl (agg_at rfl)) ?_
  refine VR.store (cs' := #[.int .i64 e.ver, .slice A2 e.n c2]) (v := .agg _) Try.sizeOf42 rfl rfl rfl rfl rfl hm 1 0 rfl (Nat.ble_eq.mp rfl) rfl ?_
  intro w hm
  refine VR.nil ?_
  repeat (first | refine VC.seq ?_ | refine VC.block ?_ | refine VC.skip ?_)
  refine VC.ret ⟨_, ResOf.r1 (v := .agg _) rfl ⟨_, rfl, run_loadVarAgg Try.isAgg42 Try.sizeOf42 (hm.at_ 1 0 rfl) (vs := [.int .i64 e.ver, .slice A2 e.n c2]) rfl (agg_at rfl)⟩, ?_⟩
  exact ⟨A2, c2, L2, rfl, ho, hm.pop2.pop2⟩
set_option maxHeartbeats 2000000 in
theorem copyEs_c {A : Option Addr} {n c : Nat} {es : List En} (hm : Mem F w Ls) (hn : n ≤ 100000) (hr : ERow F.heap A n es) (hsm : ∀ e ∈ es, e.n * 32 ≤ 140737488355328) :
    Calls Try.prog 11 #[.slice A n c] w (Ret fun v w' => ∃ A' c' os G, v = .slice A' n c' ∧ F.under G ∧ ERow G.heap A' n os ∧ os.map En.abs = es.map En.abs ∧ Mem G w' Ls) := by
  have hl := hr.len
  refine Calls.of_vc Try.func11 rfl Try.ntmps11 rfl ?_
  repeat (first | refine VC.seq ?_ | refine VC.block ?_ | refine VC.skip ?_)
  refine VC.region ?_
  refine VR.pure rfl rfl (p_assignL rfl) ?_
  refine VR.nil ?_
  repeat (first | refine VC.seq ?_ | refine VC.block ?_ | refine VC.skip ?_)
  refine VC.region ?_
  refine VR.pure rfl rfl (p_assignL rfl) ?_
  refine VR.nil ?_
  repeat (first | refine VC.seq ?_ | refine VC.block ?_ | refine VC.skip ?_)
  refine VC.region ?_
  refine VR.pure rfl rfl (p_assignI rfl) ?_
  refine VR.nil ?_
  repeat (first | refine VC.seq ?_ | refine VC.block ?_ | refine VC.skip ?_)
  refine VC.loop (σ := Nat × Option Addr × Nat × List En × Blks) (fun s => [(0, .slice A n c), (3, .slice s.2.1 s.1 s.2.2.1), (4, .int .i64 s.1)])
    (fun s w => s.1 ≤ n ∧ ∃ G, F.under G ∧ OwnS 42 2 s.2.1 s.1 s.2.2.1 (ecells s.2.2.2.1) s.2.2.2.2 ∧ (∀ o ∈ s.2.2.2.1, EnOk G.heap o) ∧ s.2.2.2.1.map En.abs = (es.take s.1).map En.abs ∧ Mem G w (s.2.2.2.2 :: Ls)) (fun s => n - s.1)
    (0, none, 0, [], []) ⟨rfl, rfl, rfl, trivial⟩ ⟨by omega, F, Env.under_refl F, OwnS.nil _ _, by simp, rfl, hm.nil_⟩ ?_
  clear hm
  rintro ⟨k, A1, c1, os, L⟩ AA w ⟨hk, G, hu, ho, hoks, habs, hm⟩
  dsimp only at hk ho hoks habs hm ⊢
  repeat (first | refine VC.seq ?_ | refine VC.block ?_ | refine VC.skip ?_)
  refine VC.region ?_
  refine VR.pure rfl rfl (p_moveI rfl) ?_
  refine VR.pure rfl rfl (p_moveL rfl) ?_
  refine VR.pure rfl rfl (p_len Try.underlying23 rfl) ?_
  refine VR.pure rfl rfl (p_lt rfl rfl) ?_
  refine VR.nil ?_
  repeat (first | refine VC.seq ?_ | refine VC.block ?_ | refine VC.skip ?_)
  refine VC.condD rfl (fun h => ?_) (fun h => ?_)
  · have hk' : k < n := by omega
    obtain ⟨e, he, hem⟩ := get_of (xs := es) (k := k) (by omega)
    obtain ⟨b, off, blk, T, fr, rfl, hb, hcc⟩ := hr.row.elem En.len (by decide) (by omega)
    replace hb := hu.heap _ _ hb
    have hen := hsm e hem
    have hok := (hr.each e hem).mono hu.heap
    repeat (first | refine VC.seq ?_ | refine VC.block ?_ | refine VC.skip ?_)
    refine VC.region ?_
    refine VR.pure rfl rfl (p_moveL rfl) ?_
    refine VR.pure rfl rfl (p_moveI rfl) ?_
    refine VR.pure rfl rfl (p_idxN Try.underlying23 Try.sizeOf42 rfl rfl hk') ?_
    refine VR.val rfl rfl (r_loadAgg (vs := [.int .i64 e.ver, .slice e.A e.n e.c]) Try.isAgg42 Try.sizeOf42 rfl (hm.fix _ _ hb) rfl (hcc k e he)) ?_
    refine VR.call rfl rfl (r_call1 Try.call31 rfl) (copyE_c (e := e) hm hen hok.1) ?_
    rintro _ w ⟨A2, c2, L2, rfl, ho2, hm⟩
    refine VR.new hm rfl rfl (n_allocG Try.zeroValue42) ?_
    intro b5 w hm
    refine VR.store (cs' := #[.int .i64 e.ver, .slice A2 e.n c2]) (v := .agg _) Try.sizeOf42 rfl rfl rfl rfl rfl hm 0 0 rfl (Nat.ble_eq.mp rfl) rfl ?_
    intro w hm
    refine VR.nil ?_
    repeat (first | refine VC.seq ?_ | refine VC.block ?_ | refine VC.skip ?_)
    refine VC.region ?_
    refine VR.pure rfl rfl (p_moveL rfl) ?_
    refine VR.val rfl rfl (r_loadAgg (vs := [.int _ _, .slice _ _ _]) Try.isAgg42 Try.sizeOf42 rfl (hm.at_ 0 0 rfl) rfl (agg_at rfl)) ?_
    refine VR.new hm rfl rfl (n_buildSlice (vs := [.agg _]) Try.underlying23 inf42 rfl rfl rfl rfl rfl rfl) ?_
    intro b19 w hm
    replace hm := hm.pull 3 rfl
    refine VR.append (s := 2) (bytes := 32) Try.underlying23 inf42 rfl rfl rfl rfl rfl rfl rfl rfl rfl hm ho (Row.lit (cs := [.int .i64 e.ver, .slice A2 e.n c2]) (hm.at_ 1 0 rfl)) (ecells_one [⟨e.ver, A2, e.n, c2, e.ms⟩]) rfl ⟨by unfold maxLen; omega, by omega⟩ ?_
    intro A3 c3 w L3 ho3 hm
    refine VR.pure rfl rfl (p_assignL rfl) ?_
    refine VR.nil ?_
    repeat (first | refine VC.seq ?_ | refine VC.block ?_ | refine VC.skip ?_)
    refine VC.region ?_
    refine VR.pure rfl rfl (p_moveI rfl) ?_
    refine VR.pure rfl rfl (p_add64 rfl rfl (by omega)) ?_
    refine VR.pure rfl rfl (p_assignI rfl) ?_
    refine VR.nil ?_
    obtain ⟨G2, hu2, hm, h7⟩ := hm.pop2.pop2.swap.freeze
    refine ⟨(k + 1, A3, c3, os ++ [⟨e.ver, A2, e.n, c2, e.ms⟩], L3), ⟨rfl, rfl, rfl, trivial⟩, ⟨by show k + 1 ≤ n; omega, G2, hu.trans hu2, ?_, fun o hx => ?_, ?_, hm⟩, by show n - (k + 1) < n - k; omega⟩
    · show OwnS 42 2 A3 (k + 1) c3 (ecells (os ++ [⟨e.ver, A2, e.n, c2, e.ms⟩])) L3
      unfold ecells
      rw [List.flatMap_append]
      exact ho3
    · rcases List.mem_append.1 hx with hx | hx
      · exact (hoks o hx).mono hu2.heap
      · obtain rfl := List.mem_singleton.1 hx
        exact ⟨ho2.row h7, ho2.le⟩
    · show (os ++ [_]).map En.abs = (es.take (k + 1)).map En.abs
      rw [List.take_add_one, he, List.map_append, List.map_append, habs]
      rfl
  · repeat (first | refine VC.seq ?_ | refine VC.block ?_ | refine VC.skip ?_)
    refine VC.exit ?_
    have hkn : k = n := by omega
    subst hkn
    rw [List.take_of_length_le (by omega)] at habs
    obtain ⟨G2, hu2, hm, h7⟩ := hm.freeze
    repeat (first | refine VC.seq ?_ | refine VC.block ?_ | refine VC.skip ?_)
    refine VC.region ?_
    refine VR.pure rfl rfl (p_moveL rfl) ?_
    refine VR.pure rfl rfl (p_assignL rfl) ?_
    refine VR.nil ?_
    repeat (first | refine VC.seq ?_ | refine VC.block ?_ | refine VC.skip ?_)
    refine VC.ret ⟨_, ResOf.r1 (v := .slice _ _ _) rfl rfl, ?_⟩
    exact ⟨A1, c1, os, G2, rfl, hu.trans hu2, ⟨ho.row h7, fun o hx => (hoks o hx).mono hu2.heap⟩, habs, hm⟩
theorem small_abs {H K : Nat → Option Obj} {A B : Option Addr} {n m : Nat} {es os : List En} (hr : ERow H A n es) (hs : ERow K B m os) (ha : os.map En.abs = es.map En.abs) (hsm : ∀ e ∈ es, e.n * 32 ≤ 140737488355328) : ∀ o ∈ os, o.n * 32 ≤ 140737488355328 := by
  intro o ho
  have h1 : o.abs ∈ es.map En.abs := by rw [← ha]; exact List.mem_map_of_mem ho
  obtain ⟨e, he, heq⟩ := List.mem_map.1 h1
  have h2 := (hs.each o ho).1.len
  have h3 := (hr.each e he).1.len
  have h4 : e.ms = o.ms := congrArg Prod.snd heq
  have h5 := hsm e he
  rw [h4] at h3
  omega

/-! ### The document's chooser -/
structure Rc where
  id : Int
  ep : Int
  zx : Int
  A : Option Addr
  n : Nat
  c : Nat
  es : List En
  round : Int
  v : Vt
  h : Nat → Vt
  b : Nat → Bool
  calm : Int
abbrev rcl (id ep zx : Int) (A : Option Addr) (n c : Nat) (round : Int) (v : Vt) (h : Nat → Vt) (b : Nat → Bool) (calm : Int) : Array Value := #[.int .i64 id, .int .i64 ep, .int .i64 zx, .slice A n c, .int .i64 round, .int .i64 v.l, .int .i64 v.e, .int .i64 v.z, .int .i64 (h 0).l, .int .i64 (h 0).e, .int .i64 (h 0).z, .int .i64 (h 1).l, .int .i64 (h 1).e, .int .i64 (h 1).z, .int .i64 (h 2).l, .int .i64 (h 2).e, .int .i64 (h 2).z, .int .i64 (h 3).l, .int .i64 (h 3).e, .int .i64 (h 3).z, .int .i64 (h 4).l, .int .i64 (h 4).e, .int .i64 (h 4).z, .int .i64 (h 5).l, .int .i64 (h 5).e, .int .i64 (h 5).z, .int .i64 (h 6).l, .int .i64 (h 6).e, .int .i64 (h 6).z, .int .i64 (h 7).l, .int .i64 (h 7).e, .int .i64 (h 7).z, .bool (b 0), .bool (b 1), .bool (b 2), .bool (b 3), .bool (b 4), .bool (b 5), .bool (b 6), .bool (b 7), .int .i64 calm]
abbrev rcells (R : Rc) : Array Value := rcl R.id R.ep R.zx R.A R.n R.c R.round R.v R.h R.b R.calm
abbrev rO (R : Rc) : Obj := .cells (rcells R) 87 (0, 0)
theorem rc_l (R : Rc) : ∀ (k : Nat), k < 8 → (rcells R)[0 + 8 + k * 3 + 0]? = some (.int .i64 (R.h k).l)
    | 0, _ => rfl
    | 1, _ => rfl
    | 2, _ => rfl
    | 3, _ => rfl
    | 4, _ => rfl
    | 5, _ => rfl
    | 6, _ => rfl
    | 7, _ => rfl
theorem rc_e (R : Rc) : ∀ (k : Nat), k < 8 → (rcells R)[0 + 8 + k * 3 + 1]? = some (.int .i64 (R.h k).e)
    | 0, _ => rfl
    | 1, _ => rfl
    | 2, _ => rfl
    | 3, _ => rfl
    | 4, _ => rfl
    | 5, _ => rfl
    | 6, _ => rfl
    | 7, _ => rfl
theorem rc_z (R : Rc) : ∀ (k : Nat), k < 8 → (rcells R)[0 + 8 + k * 3 + 2]? = some (.int .i64 (R.h k).z)
    | 0, _ => rfl
    | 1, _ => rfl
    | 2, _ => rfl
    | 3, _ => rfl
    | 4, _ => rfl
    | 5, _ => rfl
    | 6, _ => rfl
    | 7, _ => rfl
theorem rc_heard (R : Rc) {k : Nat} (hk : k < 8) : ∀ i, i < 3 → (rcells R)[0 + 8 + k * 3 + i]? = ([.int .i64 (R.h k).l, .int .i64 (R.h k).e, .int .i64 (R.h k).z] : List Value)[i]?
  | 0, _ => rc_l R k hk
  | 1, _ => rc_e R k hk
  | 2, _ => rc_z R k hk
theorem rc_is (R : Rc) : ∀ (k : Nat), k < 8 → (rcells R)[0 + 32 + k * 1]? = some (.bool (R.b k))
    | 0, _ => rfl
    | 1, _ => rfl
    | 2, _ => rfl
    | 3, _ => rfl
    | 4, _ => rfl
    | 5, _ => rfl
    | 6, _ => rfl
    | 7, _ => rfl
def updH (h : Nat → Vt) (k : Nat) (u : Vt) : Nat → Vt := fun i => if i = k then u else h i
def updB (b : Nat → Bool) (k : Nat) : Nat → Bool := fun i => if i = k then true else b i
theorem rc_put (R : Rc) (u : Vt) : ∀ (k : Nat), k < 8 → lay (rcells R) (0 + 8 + k * 3) [.int .i64 u.l, .int .i64 u.e, .int .i64 u.z] = rcells { R with h := updH R.h k u }
    | 0, _ => by kernel_rfl
    | 1, _ => by kernel_rfl
    | 2, _ => by kernel_rfl
    | 3, _ => by kernel_rfl
    | 4, _ => by kernel_rfl
    | 5, _ => by kernel_rfl
    | 6, _ => by kernel_rfl
    | 7, _ => by kernel_rfl
theorem rc_mark (R : Rc) : ∀ (k : Nat), k < 8 → lay (rcells R) (0 + 32 + k * 1) [.bool true] = rcells { R with b := updB R.b k }
    | 0, _ => by kernel_rfl
    | 1, _ => by kernel_rfl
    | 2, _ => by kernel_rfl
    | 3, _ => by kernel_rfl
    | 4, _ => by kernel_rfl
    | 5, _ => by kernel_rfl
    | 6, _ => by kernel_rfl
    | 7, _ => by kernel_rfl
def rOwn (R : Rc) : Rc := { R with v := ownV R.es R.id ⟨R.id, R.ep, R.zx⟩, h := fun _ => v0, b := fun _ => false, calm := 0 }
theorem own_step {es : List En} {k : Nat} {e : En} {id : Int} {me : Vt} (he : es[k]? = some e) : ownV (es.take (k + 1)) id me = if voterE e.ms id = true then me else ownV (es.take k) id me := by
  unfold ownV
  rw [List.take_add_one, he, List.any_append]
  show (if ((es.take k).any _ || (voterE e.ms id || false)) = true then _ else _) = _
  rw [Bool.or_false]
  cases voterE e.ms id <;> cases (es.take k).any fun e => voterE e.ms id <;> rfl
set_option maxHeartbeats 4000000 in
theorem rown_c {g : Nat} {R : Rc} (hm : Mem F w ([(g, rO R)] :: Ls)) (hn : R.n ≤ maxLen) (hr : ERow F.heap R.A R.n R.es) :
    Calls Try.prog 30 #[.pointer (some ⟨g, 0, none⟩)] w (Ret fun _ w' => Mem F w' ([(g, rO (rOwn R))] :: Ls)) := by
  obtain ⟨id, ep, zx, A, n, c, es, round, v, h, b, calm⟩ := R
  unfold rOwn
  dsimp only at hn hr
  replace hm : Mem F w ([(g, .cells (rcl id ep zx A n c round v h b calm) 87 (0, 0))] :: Ls) := hm
  show Calls _ _ _ _ (Ret fun _ w' => Mem F w' ([(g, .cells (rcl id ep zx A n c round (ownV es id ⟨id, ep, zx⟩) (fun _ => v0) (fun _ => false) 0) 87 (0, 0))] :: Ls))
  have hl := hr.len
  unfold maxLen at hn
  refine Calls.of_vc Try.func30 rfl Try.ntmps30 rfl ?_
  repeat (first | refine VC.seq ?_ | refine VC.block ?_ | refine VC.skip ?_)
  refine VC.region ?_
  refine VR.pure rfl rfl (p_moveP rfl) ?_
  refine VR.pure rfl rfl (p_build (vs := []) bld83_0x rfl) ?_
  refine VR.pure rfl rfl (p_nilCheck rfl) ?_
  refine VR.pure rfl rfl (p_field (fo := 5) Try.underlying87 rfl Try.sizeOf83 rfl rfl rfl) ?_
  refine VR.store (cs' := (rcl id ep zx A n c round v0 h b calm)) (v := .agg _) Try.sizeOf83 rfl rfl rfl rfl rfl hm 0 0 rfl (Nat.ble_eq.mp rfl) rfl ?_
  intro w hm
  refine VR.nil ?_
  repeat (first | refine VC.seq ?_ | refine VC.block ?_ | refine VC.skip ?_)
  refine VC.region ?_
  refine VR.pure rfl rfl (p_assignI rfl) ?_
  refine VR.nil ?_
  repeat (first | refine VC.seq ?_ | refine VC.block ?_ | refine VC.skip ?_)
  refine VC.loop (σ := Nat) (fun k => [(0, .pointer (some ⟨g, 0, none⟩)), (2, .int .i64 k)]) (fun k w => Mem F w ([(g, .cells (rcl id ep zx A n c round (ownV (es.take k) id ⟨id, ep, zx⟩) h b calm) 87 (0, 0))] :: Ls) ∧ k ≤ n) (fun k => n - k) 0 ⟨rfl, rfl, trivial⟩ ⟨hm, by omega⟩ ?_
  clear hm
  rintro k AA w ⟨hm, hk⟩
  repeat (first | refine VC.seq ?_ | refine VC.block ?_ | refine VC.skip ?_)
  refine VC.region ?_
  refine VR.pure rfl rfl (p_moveI rfl) ?_
  refine VR.pure rfl rfl (p_moveP rfl) ?_
  refine VR.pure rfl rfl (p_nilCheck rfl) ?_
  refine VR.pure rfl rfl (p_field (fo := 3) Try.underlying87 rfl Try.sizeOf23 rfl rfl rfl) ?_
  refine VR.val rfl rfl (r_load (v := .slice _ _ _) Try.isAgg23 rfl (hm.at_ 0 0 rfl) rfl) ?_
  refine VR.pure rfl rfl (p_len Try.underlying23 rfl) ?_
  refine VR.pure rfl rfl (p_lt rfl rfl) ?_
  refine VR.nil ?_
  repeat (first | refine VC.seq ?_ | refine VC.block ?_ | refine VC.skip ?_)
  refine VC.condD rfl (fun hlt => ?_) (fun hlt => ?_)
  · have hk' : k < n := by omega
    obtain ⟨e, he, hem⟩ := get_of (xs := es) (k := k) (by omega)
    obtain ⟨bb, off, blk, T, fr, rfl, hb, hcc⟩ := hr.row.elem En.len (by decide) (by omega)
    have hok := hr.each e hem
    have hstep := own_step (id := id) (me := ⟨id, ep, zx⟩) he
    generalize ownV (es.take k) id ⟨id, ep, zx⟩ = cur at hm hstep
    repeat (first | refine VC.seq ?_ | refine VC.block ?_ | refine VC.skip ?_)
    refine VC.loud (Kept F ([(g, .cells (rcl id ep zx (some ⟨bb, off, none⟩) n c round cur h b calm) 87 (0, 0))] :: [])) [11] rfl (by kernel_rfl) (Kept.one hm.drew 0 rfl) ?_
    replace hm := hm.drew
    refine VL.pure rfl rfl rfl (p_moveP rfl) ?_
    refine VL.pure rfl rfl rfl (p_nilCheck rfl) ?_
    refine VL.pure rfl rfl rfl (p_field (fo := 3) Try.underlying87 rfl Try.sizeOf23 rfl rfl rfl) ?_
    refine VL.read rfl rfl rfl (fun w' hw' => r_load (v := .slice _ _ _) Try.isAgg23 rfl (hw'.at_ 0 0 rfl) rfl) ?_
    refine VL.pure rfl rfl rfl (p_moveI rfl) ?_
    refine VL.pure rfl rfl rfl (p_idxN Try.underlying23 Try.sizeOf42 rfl rfl hk') ?_
    refine VL.read rfl rfl rfl (fun w' hw' => r_loadAgg (vs := [.int .i64 e.ver, .slice e.A e.n e.c]) Try.isAgg42 Try.sizeOf42 rfl (hw'.fix _ _ hb) rfl (hcc k e he)) ?_
    refine VL.pure rfl rfl rfl (p_moveP rfl) ?_
    refine VL.pure rfl rfl rfl (p_nilCheck rfl) ?_
    refine VL.pure rfl rfl rfl (p_field (fo := 0) Try.underlying87 rfl Try.sizeOf3 rfl rfl rfl) ?_
    refine VL.read rfl rfl rfl (fun w' hw' => r_load (v := .int _ _) Try.isAgg3 rfl (hw'.at_ 0 0 rfl) rfl) ?_
    refine VL.call rfl rfl rfl (r_call2 Try.call50 rfl rfl) (rvoter_c (e := e) hm (Nat.le_trans hok.2.1 hok.2.2) hok.1) ?_
    rintro _ w ⟨rfl, hm⟩
    refine ⟨Kept.one hm 0 rfl, ?_⟩
    refine VL.nil ?_
    by_cases hv : voterE e.ms id = true
    · repeat (first | refine VC.seq ?_ | refine VC.block ?_ | refine VC.skip ?_)
      refine VC.condT rfl hv ?_
      repeat (first | refine VC.seq ?_ | refine VC.block ?_ | refine VC.skip ?_)
      refine VC.loud (fun w' => ∃ cu, Mem F w' ([(g, .cells (rcl id ep zx (some ⟨bb, off, none⟩) n c round cu h b calm) 87 (0, 0))] :: Ls)) [16] rfl (by kernel_rfl) (⟨_, hm.drew⟩) ?_
      replace hm := hm.drew
      refine VL.pure rfl rfl rfl (p_moveP rfl) ?_
      refine VL.pure rfl rfl rfl (p_moveP rfl) ?_
      refine VL.pure rfl rfl rfl (p_nilCheck rfl) ?_
      refine VL.pure rfl rfl rfl (p_field (fo := 0) Try.underlying87 rfl Try.sizeOf3 rfl rfl rfl) ?_
      refine VL.read rfl rfl rfl (fun w' ⟨cu, hw'⟩ => r_load (v := .int _ _) Try.isAgg3 rfl (hw'.at_ 0 0 rfl) rfl) ?_
      refine VL.pure rfl rfl rfl (p_moveP rfl) ?_
      refine VL.pure rfl rfl rfl (p_nilCheck rfl) ?_
      refine VL.pure rfl rfl rfl (p_field (fo := 1) Try.underlying87 rfl Try.sizeOf3 rfl rfl rfl) ?_
      refine VL.read rfl rfl rfl (fun w' ⟨cu, hw'⟩ => r_load (v := .int _ _) Try.isAgg3 rfl (hw'.at_ 0 0 rfl) rfl) ?_
      refine VL.pure rfl rfl rfl (p_moveP rfl) ?_
      refine VL.pure rfl rfl rfl (p_nilCheck rfl) ?_
      refine VL.pure rfl rfl rfl (p_field (fo := 2) Try.underlying87 rfl Try.sizeOf22 rfl rfl rfl) ?_
      refine VL.read rfl rfl rfl (fun w' ⟨cu, hw'⟩ => r_load (v := .int _ _) Try.isAgg22 rfl (hw'.at_ 0 0 rfl) rfl) ?_
      refine VL.pure rfl rfl rfl (p_build (vs := [(0, .int _ _), (1, .int _ _), (2, .int _ _)]) bld83_0_1_2 rfl) ?_
      refine VL.pure rfl rfl rfl (p_nilCheck rfl) ?_
      refine VL.pure rfl rfl rfl (p_field (fo := 5) Try.underlying87 rfl Try.sizeOf83 rfl rfl rfl) ?_
      refine VL.store (cs' := (rcl id ep zx (some ⟨bb, off, none⟩) n c round ⟨id, ep, zx⟩ h b calm)) (v := .agg _) Try.sizeOf83 rfl rfl rfl rfl rfl rfl hm 0 0 rfl (Nat.ble_eq.mp rfl) rfl (fun w' hm' => ⟨⟨id, ep, zx⟩, hm'⟩) ?_
      intro w hm
      refine VL.nil ?_
      repeat (first | refine VC.seq ?_ | refine VC.block ?_ | refine VC.skip ?_)
      refine VC.region ?_
      refine VR.pure rfl rfl (p_moveI rfl) ?_
      refine VR.pure rfl rfl (p_add64 rfl rfl (by omega)) ?_
      refine VR.pure rfl rfl (p_assignI rfl) ?_
      refine VR.nil ?_
      refine ⟨k + 1, ⟨rfl, rfl, trivial⟩, ⟨?_, by omega⟩, by omega⟩
      rw [hstep, if_pos hv]
      exact hm
    · repeat (first | refine VC.seq ?_ | refine VC.block ?_ | refine VC.skip ?_)
      refine VC.condF rfl (Bool.not_eq_true _ |>.mp hv) ?_
      repeat (first | refine VC.seq ?_ | refine VC.block ?_ | refine VC.skip ?_)
      refine VC.region ?_
      refine VR.pure rfl rfl (p_moveI rfl) ?_
      refine VR.pure rfl rfl (p_add64 rfl rfl (by omega)) ?_
      refine VR.pure rfl rfl (p_assignI rfl) ?_
      refine VR.nil ?_
      refine ⟨k + 1, ⟨rfl, rfl, trivial⟩, ⟨?_, by omega⟩, by omega⟩
      rw [hstep, if_neg hv]
      exact hm
  · repeat (first | refine VC.seq ?_ | refine VC.block ?_ | refine VC.skip ?_)
    refine VC.exit ?_
    rw [List.take_of_length_le (by omega)] at hm
    generalize hcu : ownV es id ⟨id, ep, zx⟩ = cu at hm
    repeat (first | refine VC.seq ?_ | refine VC.block ?_ | refine VC.skip ?_)
    refine VC.region ?_
    refine VR.pure rfl rfl (p_moveP rfl) ?_
    refine VR.pure rfl rfl (p_build (vs := []) bld84_0x rfl) ?_
    refine VR.pure rfl rfl (p_nilCheck rfl) ?_
    refine VR.pure rfl rfl (p_field (fo := 8) Try.underlying87 rfl Try.sizeOf84 rfl rfl rfl) ?_
    refine VR.store (cs' := (rcl id ep zx A n c round cu (fun _ => v0) b calm)) (v := .agg _) Try.sizeOf84 rfl rfl rfl rfl rfl hm 0 0 rfl (Nat.ble_eq.mp rfl) (by kernel_rfl) ?_
    intro w hm
    refine VR.nil ?_
    repeat (first | refine VC.seq ?_ | refine VC.block ?_ | refine VC.skip ?_)
    refine VC.region ?_
    refine VR.pure rfl rfl (p_moveP rfl) ?_
    refine VR.pure rfl rfl (p_build (vs := []) bld85_0x rfl) ?_
    refine VR.pure rfl rfl (p_nilCheck rfl) ?_
    refine VR.pure rfl rfl (p_field (fo := 32) Try.underlying87 rfl Try.sizeOf85 rfl rfl rfl) ?_
    refine VR.store (cs' := (rcl id ep zx A n c round cu (fun _ => v0) (fun _ => false) calm)) (v := .agg _) Try.sizeOf85 rfl rfl rfl rfl rfl hm 0 0 rfl (Nat.ble_eq.mp rfl) (by kernel_rfl) ?_
    intro w hm
    refine VR.nil ?_
    repeat (first | refine VC.seq ?_ | refine VC.block ?_ | refine VC.skip ?_)
    refine VC.region ?_
    refine VR.pure rfl rfl (p_moveP rfl) ?_
    refine VR.pure rfl rfl (p_nilCheck rfl) ?_
    refine VR.pure rfl rfl (p_field (fo := 40) Try.underlying87 rfl Try.sizeOf3 rfl rfl rfl) ?_
    refine VR.store (cs' := (rcl id ep zx A n c round cu (fun _ => v0) (fun _ => false) 0)) (v := .int _ _) Try.sizeOf3 rfl rfl rfl rfl rfl hm 0 0 rfl (Nat.ble_eq.mp rfl) rfl ?_
    intro w hm
    refine VR.nil ?_
    repeat (first | refine VC.seq ?_ | refine VC.block ?_ | refine VC.skip ?_)
    exact ⟨_, ResOf.r0 rfl, hm⟩
end
end Go.Bd
