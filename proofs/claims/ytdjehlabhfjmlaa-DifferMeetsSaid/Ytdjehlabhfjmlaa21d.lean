/- The histories that four servers come to, as a call. Conditions: as each states. -/
import Derived.Test.Ytdjehlabhfjmlaa21c
namespace Go.Bd
open Go.Proofs
set_option linter.unusedVariables false

structure Sl where
  A : Option Addr
  n : Nat
  c : Nat
  xs : List Int
def Sl.val (s : Sl) : Value := .slice s.A s.n s.c
def cells4 (H : Nat → Sl) : Array Value := #[.slice (H 0).A (H 0).n (H 0).c, .slice (H 1).A (H 1).n (H 1).c, .slice (H 2).A (H 2).n (H 2).c, .slice (H 3).A (H 3).n (H 3).c]
theorem cells4_at (H : Nat → Sl) {i : Nat} (h : i < 4) : (cells4 H)[0 + i]? = some (.slice (H i).A (H i).n (H i).c) := by
  match i, h with
  | 0, _ => rfl
  | 1, _ => rfl
  | 2, _ => rfl
  | 3, _ => rfl
def setSl (H : Nat → Sl) (i : Nat) (s : Sl) : Nat → Sl := fun j => match Nat.beq j i with | true => s | false => H j
theorem cells4_set (H : Nat → Sl) {i : Nat} (h : i < 4) (s : Sl) : lay (cells4 H) (0 + i) (Value.slice s.A s.n s.c).cells.toList = cells4 (setSl H i s) := by
  match i, h with
  | 0, _ => rfl
  | 1, _ => rfl
  | 2, _ => rfl
  | 3, _ => rfl
theorem setSl_same (H : Nat → Sl) (i : Nat) (s : Sl) : setSl H i s i = s := by unfold setSl; rw [Nat.beq_refl]
theorem setSl_ne (H : Nat → Sl) {i j : Nat} (s : Sl) (h : j ≠ i) : setSl H i s j = H j := by
  unfold setSl
  cases hb : Nat.beq j i with
  | true => exact absurd (Nat.eq_of_beq_eq_true hb) h
  | false => rfl

def SlOk (G : Env) (Φ : List Int → Prop) (s : Sl) : Prop := Row G.heap s.A s.n (s.xs.map (Value.int .i64)) ∧ s.n ≤ s.c ∧ s.c ≤ maxLen ∧ Φ s.xs
def HistOk (G : Env) (Φ : List Int → Prop) (H : Nat → Sl) : Prop := ∀ i, i < 4 → SlOk G Φ (H i)
theorem SlOk.mono {G K : Env} {Φ Ψ : List Int → Prop} {s : Sl} (h : SlOk G Φ s) (hu : G.le K) (hp : ∀ a, Φ a → Ψ a) : SlOk K Ψ s := ⟨h.1.le hu, h.2.1, h.2.2.1, hp _ h.2.2.2⟩
theorem HistOk.mono {G K : Env} {Φ Ψ : List Int → Prop} {H : Nat → Sl} (h : HistOk G Φ H) (hu : G.le K) (hp : ∀ a, Φ a → Ψ a) : HistOk K Ψ H := fun i hi => (h i hi).mono hu hp
theorem HistOk.set {G : Env} {Φ : List Int → Prop} {H : Nat → Sl} (h : HistOk G Φ H) {i : Nat} {s : Sl} (hs : SlOk G Φ s) : HistOk G Φ (setSl H i s) := fun j hj => by
  by_cases e : j = i
  · subst e; rw [setSl_same]; exact hs
  · rw [setSl_ne H s e]; exact h j hj

def sl0 : Nat → Sl := fun _ => ⟨none, 0, 0, []⟩

set_option maxHeartbeats 4000000 in
theorem histories_c {F : Env} {w : World} {Ls : List Blks} {A0 : Option Addr} {n0 c0 : Nat} {nums : List Int} (hm : Mem F w Ls) (hc0 : n0 ≤ c0 ∧ c0 ≤ maxLen) (hr : Row F.heap A0 n0 (nums.map (Value.int .i64))) :
    Calls Try.prog 13 #[.slice A0 n0 c0] w
      (Ret fun v w' => ∃ G H Φ e, v = .agg (cells4 H) ∧ F.under G ∧ Mem G w' Ls ∧ Good e Φ ∧ e ≤ 12 ∧ HistOk G Φ H) := by
  have hl : nums.length = n0 := by have := hr.len; rwa [List.length_map] at this
  have hc2 := hc0.2
  unfold maxLen at hc2
  refine Calls.of_vc Try.func13 rfl Try.ntmps13 rfl ?_
  repeat (first | refine VC.seq ?_ | refine VC.block ?_ | refine VC.skip ?_)
  refine VC.region ?_
  refine VR.new hm rfl rfl (n_alloc Try.zeroValue33 rfl) ?_
  intro g2 w hm
  refine VR.nil ?_
  repeat (first | refine VC.seq ?_ | refine VC.block ?_ | refine VC.skip ?_)
  refine VC.region ?_
  refine VR.new hm rfl rfl (n_alloc Try.zeroValue33 rfl) ?_
  intro g3 w hm
  refine VR.nil ?_
  repeat (first | refine VC.seq ?_ | refine VC.block ?_ | refine VC.skip ?_)
  refine VC.region ?_
  refine VR.pure rfl rfl (p_assignI rfl) ?_
  refine VR.nil ?_
  repeat (first | refine VC.seq ?_ | refine VC.block ?_ | refine VC.skip ?_)
  refine VC.loop (σ := Nat × Env × (Nat → Sl)) (fun s => [(0, .slice A0 n0 c0), (2, .pointer (some ⟨g2, 0, none⟩)), (3, .pointer (some ⟨g3, 0, none⟩)), (4, .int .i64 s.1)])
    (fun s w => F.under s.2.1 ∧ Mem s.2.1 w ([(g3, .cells (cells4 s.2.2) 33 (0, 0))] :: [(g2, .cells (cells4 sl0) 33 (0, 0))] :: Ls) ∧ s.1 ≤ 12 ∧ ∃ Φ, Good s.1 Φ ∧ HistOk s.2.1 Φ s.2.2)
    (fun s => 12 - s.1) (0, F, sl0) ⟨rfl, rfl, rfl, rfl, trivial⟩ ⟨Env.under_refl F, hm, by omega, _, Good.zero, fun i _ => ⟨Row.nil _, Nat.le_refl _, by simp only [sl0, maxLen]; omega, rfl⟩⟩ ?_
  rintro ⟨e, G, H⟩ A' w ⟨hu, hm, he, Φ, hgood, hok⟩
  dsimp only at hu hm he hgood hok ⊢
  replace hr := hr.le hu.heap
  repeat (first | refine VC.seq ?_ | refine VC.block ?_ | refine VC.skip ?_)
  refine VC.region ?_
  refine VR.pure rfl rfl (p_moveI rfl) ?_
  refine VR.pure rfl rfl (p_moveL rfl) ?_
  refine VR.pure rfl rfl (p_len Try.underlying32 rfl) ?_
  refine VR.pure rfl rfl (p_quo64 rfl rfl (by omega)) ?_
  refine VR.pure rfl rfl (p_lt rfl rfl) ?_
  refine VR.pure rfl rfl (p_moveB rfl) ?_
  refine VR.splitD 17 rfl (fun h => ?_) (fun h => ?_)
  refine VR.pureG rfl rfl (p_moveI rfl) ?_
  refine VR.pureG rfl rfl (p_lt rfl rfl) ?_
  refine VR.pure rfl rfl (p_pickT rfl rfl) ?_
  refine VR.nil ?_
  rotate_left 1
  refine VR.pass rfl rfl ?_
  refine VR.pass rfl rfl ?_
  refine VR.pure rfl rfl (p_pickF rfl rfl) ?_
  refine VR.nil ?_
  rotate_left 1
  rotate_left
  · repeat (first | refine VC.seq ?_ | refine VC.block ?_ | refine VC.skip ?_)
    refine VC.condF rfl rfl ?_
    repeat (first | refine VC.seq ?_ | refine VC.block ?_ | refine VC.skip ?_)
    refine VC.exit ?_
    repeat (first | refine VC.seq ?_ | refine VC.block ?_ | refine VC.skip ?_)
    refine VC.region ?_
    refine VR.val rfl rfl (r_loadAgg (vs := [.slice _ _ _, .slice _ _ _, .slice _ _ _, .slice _ _ _]) Try.isAgg33 Try.sizeOf33 rfl (hm.at_ 0 0 rfl) rfl (agg_at rfl)) ?_
    refine VR.store (cs' := (cells4 H)) (v := .agg _) Try.sizeOf33 rfl rfl rfl rfl rfl hm 1 0 rfl (Nat.ble_eq.mp rfl) rfl ?_
    intro w hm
    refine VR.nil ?_
    repeat (first | refine VC.seq ?_ | refine VC.block ?_ | refine VC.skip ?_)
    refine VC.ret ⟨_, ResOf.r1 (v := .agg _) rfl ⟨_, rfl, run_loadVarAgg Try.isAgg33 Try.sizeOf33 (hm.at_ 1 0 rfl) (vs := (cells4 H).toList) rfl (agg_at rfl)⟩, ?_⟩
    exact ⟨G, H, Φ, e, rfl, hu, hm.pop.pop, hgood, he, hok⟩
  · repeat (first | refine VC.seq ?_ | refine VC.block ?_ | refine VC.skip ?_)
    refine VC.condD rfl (fun h2 => ?_) (fun h2 => ?_)
    rotate_left
    · repeat (first | refine VC.seq ?_ | refine VC.block ?_ | refine VC.skip ?_)
      refine VC.exit ?_
      repeat (first | refine VC.seq ?_ | refine VC.block ?_ | refine VC.skip ?_)
      refine VC.region ?_
      refine VR.val rfl rfl (r_loadAgg (vs := [.slice _ _ _, .slice _ _ _, .slice _ _ _, .slice _ _ _]) Try.isAgg33 Try.sizeOf33 rfl (hm.at_ 0 0 rfl) rfl (agg_at rfl)) ?_
      refine VR.store (cs' := (cells4 H)) (v := .agg _) Try.sizeOf33 rfl rfl rfl rfl rfl hm 1 0 rfl (Nat.ble_eq.mp rfl) rfl ?_
      intro w hm
      refine VR.nil ?_
      repeat (first | refine VC.seq ?_ | refine VC.block ?_ | refine VC.skip ?_)
      refine VC.ret ⟨_, ResOf.r1 (v := .agg _) rfl ⟨_, rfl, run_loadVarAgg Try.isAgg33 Try.sizeOf33 (hm.at_ 1 0 rfl) (vs := (cells4 H).toList) rfl (agg_at rfl)⟩, ?_⟩
      exact ⟨G, H, Φ, e, rfl, hu, hm.pop.pop, hgood, he, hok⟩
    · have he12 : e < 12 := by omega
      have h6 : 6 * e + 6 ≤ n0 := by omega
      obtain ⟨A5, hA5, hr5⟩ := hr.dropE1 (l := 6 * e) (c := c0) (by omega) hc0.1
      replace hr5 : Row G.heap A5 6 (((nums.drop (6 * e)).take 6).map (Value.int .i64)) := by
        rw [List.map_take, List.map_drop]
        exact hr5.take (by omega)
      obtain ⟨b5, off5, blk5, T5, fr5, rfl, hb5, hcc5⟩ := hr5.get (by omega)
      have hl5 := hr5.len
      generalize hns : (nums.drop (6 * e)).take 6 = ns at hr5 hcc5 hl5
      repeat (first | refine VC.seq ?_ | refine VC.block ?_ | refine VC.skip ?_)
      refine VC.region ?_
      refine VR.pure rfl rfl (p_moveL rfl) ?_
      refine VR.pure rfl rfl (p_moveI rfl) ?_
      refine VR.pure rfl rfl (p_mul64E (r := ((6 * e : Nat) : Int)) rfl rfl (by omega) (by omega)) ?_
      refine VR.pure rfl rfl (p_moveI rfl) ?_
      refine VR.pure rfl rfl (p_mul64E (r := ((6 * e : Nat) : Int)) rfl rfl (by omega) (by omega)) ?_
      refine VR.pure rfl rfl (p_add64E (r := ((6 * e + 6 : Nat) : Int)) rfl rfl (by omega) (by omega)) ?_
      refine VR.pure rfl rfl (p_sliceLHE Try.underlying32 Try.sizeOf3 rfl rfl rfl (by omega) hA5 (Nat.add_sub_cancel_left _ _) rfl) ?_
      refine VR.pure rfl rfl (p_assignL rfl) ?_
      refine VR.nil ?_
      repeat (first | refine VC.seq ?_ | refine VC.block ?_ | refine VC.skip ?_)
      refine VC.region ?_
      refine VR.pure rfl rfl (p_moveL rfl) ?_
      refine VR.pure rfl rfl (p_idx1 (j := 0) Try.underlying32 Try.sizeOf3 rfl rfl (by omega)) ?_
      refine VR.val rfl rfl (r_load Try.isAgg3 rfl (hm.fix _ _ hb5) (int_at hcc5 hl5 (k := 0) (by omega))) ?_
      refine VR.call rfl rfl (r_call2 Try.call14 rfl rfl) (pick_c (by omega)) ?_
      rintro _ _ ⟨⟨ld, hld, rfl⟩, rfl⟩
      refine VR.pure rfl rfl (p_assignI rfl) ?_
      refine VR.nil ?_
      replace hld : ld < 4 := by omega
      have hokl := hok ld hld
      have hnl : (H ld).n ≤ 48 := by
        have h1 := hgood.len _ hokl.2.2.2
        have h2 := hokl.1.len
        rw [List.length_map] at h2
        omega
      repeat (first | refine VC.seq ?_ | refine VC.block ?_ | refine VC.skip ?_)
      refine VC.region ?_
      refine VR.pure rfl rfl (p_moveI rfl) ?_
      refine VR.pure rfl rfl (p_idxA1 Try.underlying33 Try.sizeOf23 rfl rfl hld) ?_
      refine VR.val rfl rfl (r_load Try.isAgg23 rfl (hm.at_ 0 0 rfl) (cells4_at H hld)) ?_
      refine VR.call rfl rfl (r_call1 Try.call20 rfl) (copy_zxids_c hm (by omega) hokl.1) ?_
      rintro _ w ⟨A7, c7, L7, rfl, ho7, hm⟩
      refine VR.pure rfl rfl (p_assignL rfl) ?_
      refine VR.nil ?_
      generalize hbeg : (H ld).xs = begun at ho7
      generalize hnb : (H ld).n = nb at ho7 hnl
      have hphi : Φ begun := by rw [← hbeg]; exact hokl.2.2.2
      obtain ⟨G1, hu1, hm, hG1⟩ := hm.freeze
      have hr7 := ho7.row1 hG1
      have hle7 := ho7.le
      replace hok := hok.mono hu1.heap (fun _ h => h)
      replace hb5 := hu1.heap _ _ hb5
      replace hu := hu.trans hu1
      clear hr hr5 hokl
      repeat (first | refine VC.seq ?_ | refine VC.block ?_ | refine VC.skip ?_)
      refine VC.region ?_
      refine VR.pure rfl rfl (p_assignL rfl) ?_
      refine VR.nil ?_
      repeat (first | refine VC.seq ?_ | refine VC.block ?_ | refine VC.skip ?_)
      refine VC.region ?_
      refine VR.pure rfl rfl (p_assignI rfl) ?_
      refine VR.nil ?_
      repeat (first | refine VC.seq ?_ | refine VC.block ?_ | refine VC.skip ?_)
      refine VC.loop (σ := Nat × Option Addr × Nat × Blks) (fun s => [(0, .slice A0 n0 c0), (2, .pointer (some ⟨g2, 0, none⟩)), (3, .pointer (some ⟨g3, 0, none⟩)), (4, .int .i64 e), (5, .slice (some ⟨b5, off5, none⟩) 6 (c0 - 6 * e)), (6, .int .i64 ld), (7, .slice A7 nb c7), (8, .slice s.2.1 s.1 s.2.2.1), (9, .int .i64 s.1)])
        (fun s w => Mem G1 w (s.2.2.2 :: [(g3, .cells (cells4 H) 33 (0, 0))] :: [(g2, .cells (cells4 sl0) 33 (0, 0))] :: Ls) ∧ OwnS 22 1 s.2.1 s.1 s.2.2.1 ((deeds e s.1).map (Value.int .i64)) s.2.2.2 ∧ s.1 ≤ 4)
        (fun s => 4 - s.1) (0, none, 0, []) ⟨rfl, rfl, rfl, rfl, rfl, rfl, rfl, rfl, rfl, trivial⟩ ⟨hm.nil_, by simpa [deeds] using OwnS.nil _ _, by omega⟩ ?_
      rintro ⟨m, A8, c8, L8⟩ A'' w ⟨hm, ho8, hm4⟩
      dsimp only at hm ho8 hm4 ⊢
      repeat (first | refine VC.seq ?_ | refine VC.block ?_ | refine VC.skip ?_)
      refine VC.region ?_
      refine VR.pure rfl rfl (p_moveI rfl) ?_
      refine VR.pure rfl rfl (p_moveL rfl) ?_
      refine VR.pure rfl rfl (p_idx1 (j := 1) Try.underlying32 Try.sizeOf3 rfl rfl (by omega)) ?_
      refine VR.val rfl rfl (r_load Try.isAgg3 rfl (hm.fix _ _ hb5) (int_at hcc5 hl5 (k := 1) (by omega))) ?_
      refine VR.call rfl rfl (r_call2 Try.call14 rfl rfl) (pick_c (by omega)) ?_
      rintro _ _ ⟨⟨mx, hmx, rfl⟩, rfl⟩
      refine VR.pure rfl rfl (p_lt rfl rfl) ?_
      refine VR.nil ?_
      repeat (first | refine VC.seq ?_ | refine VC.block ?_ | refine VC.skip ?_)
      refine VC.condD rfl (fun h3 => ?_) (fun h3 => ?_)
      · have hm4' : m < 4 := by omega
        repeat (first | refine VC.seq ?_ | refine VC.block ?_ | refine VC.skip ?_)
        refine VC.region ?_
        refine VR.pure rfl rfl (p_moveL rfl) ?_
        refine VR.pure rfl rfl (p_moveI rfl) ?_
        refine VR.pure rfl rfl (p_add64 rfl rfl (by omega)) ?_
        refine VR.pure rfl rfl (p_shl64 (c := 32) (p := 4294967296) rfl rfl (by decide) (by omega)) ?_
        refine VR.pure rfl rfl (p_moveI rfl) ?_
        refine VR.pure rfl rfl (p_add64 rfl rfl (by omega)) ?_
        refine VR.pure rfl rfl (p_add64 rfl rfl (by omega)) ?_
        refine VR.new hm rfl rfl (n_buildSlice1 (vs := [.int _ _]) Try.underlying23 inf22 rfl rfl rfl rfl rfl rfl rfl) ?_
        intro gb w hm
        replace hm := hm.swap
        refine VR.append (s := 1) (bytes := 8) Try.underlying23 inf22 rfl rfl rfl rfl rfl rfl rfl rfl rfl hm ho8 (Row.lit (cs := [.int .i64 (((e : Int) + 1) * 4294967296 + m + 1)]) (hm.at_ 1 0 rfl)) (by simp [Value.oneCell']) rfl ⟨by unfold maxLen; omega, by omega⟩ ?_
        intro A9 c9 w L9 ho9 hm
        refine VR.pure rfl rfl (p_assignL rfl) ?_
        refine VR.nil ?_
        repeat (first | refine VC.seq ?_ | refine VC.block ?_ | refine VC.skip ?_)
        refine VC.region ?_
        refine VR.pure rfl rfl (p_moveI rfl) ?_
        refine VR.pure rfl rfl (p_add64 rfl rfl (by omega)) ?_
        refine VR.pure rfl rfl (p_assignI rfl) ?_
        refine VR.nil ?_
        refine ⟨(m + 1, A9, c9, L9), ⟨rfl, rfl, rfl, rfl, rfl, rfl, rfl, rfl, rfl, trivial⟩, ⟨hm.swap.pop, ?_, by simp only; omega⟩, by simp only; omega⟩
        dsimp only
        rw [deeds_succ, List.map_append]
        exact ho9
      · repeat (first | refine VC.seq ?_ | refine VC.block ?_ | refine VC.skip ?_)
        refine VC.exit ?_
        clear h3 hmx
        obtain ⟨G2, hu2, hm, hG2⟩ := hm.freeze
        have hr8 := ho8.row1 hG2
        have hle8 := ho8.le
        replace hok := (hok.mono (Ψ := onward e Φ begun) hu2.heap (fun _ h => .inl h))
        replace hb5 := hu2.heap _ _ hb5
        replace hu := hu.trans hu2
        replace hr7 := hr7.le hu2.heap
        have hgood2 := hgood.onward hphi
        have hbl := hgood.len _ hphi
        have hbl2 := hr7.len
        rw [List.length_map] at hbl2
        repeat (first | refine VC.seq ?_ | refine VC.block ?_ | refine VC.skip ?_)
        refine VC.region ?_
        refine VR.pure rfl rfl (p_assignI rfl) ?_
        refine VR.nil ?_
        repeat (first | refine VC.seq ?_ | refine VC.block ?_ | refine VC.skip ?_)
        refine VC.loop (σ := Nat × Env × (Nat → Sl)) (fun s => [(0, .slice A0 n0 c0), (2, .pointer (some ⟨g2, 0, none⟩)), (3, .pointer (some ⟨g3, 0, none⟩)), (4, .int .i64 e), (5, .slice (some ⟨b5, off5, none⟩) 6 (c0 - 6 * e)), (6, .int .i64 ld), (7, .slice A7 nb c7), (8, .slice A8 m c8), (10, .int .i64 s.1)])
          (fun s w => G2.under s.2.1 ∧ Mem s.2.1 w ([(g3, .cells (cells4 s.2.2) 33 (0, 0))] :: [(g2, .cells (cells4 sl0) 33 (0, 0))] :: Ls) ∧ HistOk s.2.1 (onward e Φ begun) s.2.2 ∧ s.1 ≤ 4)
          (fun s => 4 - s.1) (0, G2, H) ⟨rfl, rfl, rfl, rfl, rfl, rfl, rfl, rfl, rfl, trivial⟩ ⟨Env.under_refl _, hm, hok, by omega⟩ ?_
        rintro ⟨s, G3, H3⟩ A3 w ⟨hu3, hm, hok3, hs4⟩
        dsimp only at hu3 hm hok3 hs4 ⊢
        repeat (first | refine VC.seq ?_ | refine VC.block ?_ | refine VC.skip ?_)
        refine VC.region ?_
        refine VR.pure rfl rfl (p_moveI rfl) ?_
        refine VR.pure rfl rfl (p_lt rfl rfl) ?_
        refine VR.nil ?_
        repeat (first | refine VC.seq ?_ | refine VC.block ?_ | refine VC.skip ?_)
        refine VC.condD rfl (fun h4 => ?_) (fun h4 => ?_)
        · have hs4' : s < 4 := by omega
          repeat (first | refine VC.seq ?_ | refine VC.block ?_ | refine VC.skip ?_)
          refine VC.region ?_
          refine VR.pure rfl rfl (p_moveL rfl) ?_
          refine VR.pure rfl rfl (p_moveI rfl) ?_
          refine VR.pure rfl rfl (p_add64E (r := ((2 + s : Nat) : Int)) rfl rfl (by omega) (by omega)) ?_
          refine VR.pure rfl rfl (p_idx1 Try.underlying32 Try.sizeOf3 rfl rfl (by omega)) ?_
          refine VR.val rfl rfl (r_load Try.isAgg3 rfl (hm.fix _ _ (hu3.heap _ _ hb5)) (int_at hcc5 hl5 (k := 2 + s) (by omega))) ?_
          refine VR.pure rfl rfl (p_moveL rfl) ?_
          refine VR.pure rfl rfl (p_len Try.underlying23 rfl) ?_
          refine VR.pure rfl rfl (p_add64 rfl rfl (by omega)) ?_
          refine VR.call rfl rfl (r_call2 Try.call14 rfl rfl) (pick_c (by omega)) ?_
          rintro _ _ ⟨⟨hx, hhx, rfl⟩, rfl⟩
          refine VR.pure rfl rfl (p_sub64 rfl rfl (by omega)) ?_
          refine VR.pure rfl rfl (p_assignI rfl) ?_
          refine VR.nil ?_
          repeat (first | refine VC.seq ?_ | refine VC.block ?_ | refine VC.skip ?_)
          refine VC.region ?_
          refine VR.pure rfl rfl (p_moveI rfl) ?_
          refine VR.pure rfl rfl (p_moveI rfl) ?_
          refine VR.pure rfl rfl (p_eq rfl rfl) ?_
          refine VR.nil ?_
          repeat (first | refine VC.seq ?_ | refine VC.block ?_ | refine VC.skip ?_)
          refine VC.condD rfl (fun h5 => ?_) (fun h5 => ?_)
          · repeat (first | refine VC.seq ?_ | refine VC.block ?_ | refine VC.skip ?_)
            refine VC.region ?_
            refine VR.pure rfl rfl (p_moveL rfl) ?_
            refine VR.pure rfl rfl (p_len Try.underlying23 rfl) ?_
            refine VR.pure rfl rfl (p_assignI rfl) ?_
            refine VR.nil ?_
            repeat (first | refine VC.seq ?_ | refine VC.block ?_ | refine VC.skip ?_)
            refine VC.region ?_
            refine VR.pure rfl rfl (p_moveI rfl) ?_
            refine VR.pure rfl rfl (p_ge rfl rfl) ?_
            refine VR.nil ?_
            repeat (first | refine VC.seq ?_ | refine VC.block ?_ | refine VC.skip ?_)
            refine VC.condD rfl (fun h6 => ?_) (fun h6 => ?_)
            · have hn : ∃ q : Nat, (m:Int) = (q : Int) ∧ q ≤ m := ⟨((m:Int)).toNat, by omega, by omega⟩
              obtain ⟨q, hq, hqm⟩ := hn
              have hrq : Row G3.heap A8 q ((deeds e q).map (Value.int .i64)) := by
                have := (hr8.le hu3.heap).take hqm
                rwa [← List.map_take, deeds_take e m q hqm] at this
              have hrq1 : Row G3.heap A8 (q * 1) ((deeds e q).map (Value.int .i64)) := by rw [Nat.mul_one]; exact hrq
              repeat (first | refine VC.seq ?_ | refine VC.block ?_ | refine VC.skip ?_)
              refine VC.loud (Kept G3 []) [2, 6, 8] rfl (by kernel_rfl) (Kept.of0 hm.drew) ?_
              replace hm := hm.drew
              refine VL.pure rfl rfl rfl (p_moveI rfl) ?_
              refine VL.pure rfl rfl rfl (p_moveL rfl) ?_
              refine VL.call rfl rfl rfl (r_call1 Try.call20 rfl) (copy_zxids_c hm (by omega) (hr7.le hu3.heap)) ?_
              rintro _ w ⟨A9, c9, L9, rfl, ho9, hm⟩
              refine ⟨Kept.of0 hm, ?_⟩
              refine VL.pure rfl rfl rfl (p_moveL rfl) ?_
              refine VL.pure rfl rfl rfl (p_moveI rfl) ?_
              refine VL.pure rfl rfl rfl (p_sliceHN (h := q) Try.underlying23 Try.sizeOf22 rfl (congrArg (Value.int .i64) hq) (by omega)) ?_
              refine VL.append (s := 1) (bytes := 8) Try.underlying23 inf22 rfl rfl rfl rfl rfl rfl rfl rfl rfl rfl hm ho9 (hrq1.mono hm.fix) (ints_one _) rfl ⟨by unfold maxLen; omega, by omega⟩ (fun A' c' w' L' ho' hm' => Kept.of0 hm') ?_
              intro A10 c10 w L10 ho10 hm
              refine VL.pure rfl rfl rfl (p_idxA1 Try.underlying33 Try.sizeOf23 rfl rfl hs4') ?_
              refine VL.store (cs' := (cells4 (setSl H3 s ⟨A10, nb + q, c10, begun ++ deeds e q⟩))) (v := .slice _ _ _) Try.sizeOf23 rfl rfl rfl rfl rfl rfl hm 1 0 rfl (by show 0 + s + 1 ≤ 4; omega) (cells4_set H3 hs4' ⟨A10, nb + q, c10, begun ++ deeds e q⟩) (fun w' hm' => Kept.of0 hm') ?_
              intro w hm
              refine VL.nil ?_
              obtain ⟨G4, hu4, hm, hG4⟩ := hm.freeze
              have hr10 := ho10.row1 hG4
              have hle10 := ho10.le
              repeat (first | refine VC.seq ?_ | refine VC.block ?_ | refine VC.skip ?_)
              refine VC.region ?_
              refine VR.pure rfl rfl (p_moveI rfl) ?_
              refine VR.pure rfl rfl (p_add64 rfl rfl (by omega)) ?_
              refine VR.pure rfl rfl (p_assignI rfl) ?_
              refine VR.nil ?_
              refine ⟨(s + 1, G4, setSl H3 s ⟨A10, nb + q, c10, begun ++ deeds e q⟩), ⟨rfl, rfl, rfl, rfl, rfl, rfl, rfl, rfl, rfl, trivial⟩, ⟨hu3.trans hu4, hm, (hok3.mono hu4.heap fun _ h => h).set ⟨?_, hle10.1, hle10.2, .inr ⟨q, by omega, rfl⟩⟩, by simp only; omega⟩, by simp only; omega⟩
              dsimp only
              rw [List.map_append]
              exact hr10
            · repeat (first | refine VC.seq ?_ | refine VC.block ?_ | refine VC.skip ?_)
              refine VC.region ?_
              refine VR.pure rfl rfl (p_moveI rfl) ?_
              refine VR.pure rfl rfl (p_add64 rfl rfl (by omega)) ?_
              refine VR.pure rfl rfl (p_assignI rfl) ?_
              refine VR.nil ?_
              exact ⟨(s + 1, G3, H3), ⟨rfl, rfl, rfl, rfl, rfl, rfl, rfl, rfl, rfl, trivial⟩, ⟨hu3, hm, hok3, by simp only; omega⟩, by simp only; omega⟩
          · skip
            repeat (first | refine VC.seq ?_ | refine VC.block ?_ | refine VC.skip ?_)
            refine VC.region ?_
            refine VR.pure rfl rfl (p_moveI rfl) ?_
            refine VR.pure rfl rfl (p_ge rfl rfl) ?_
            refine VR.nil ?_
            repeat (first | refine VC.seq ?_ | refine VC.block ?_ | refine VC.skip ?_)
            refine VC.condD rfl (fun h6 => ?_) (fun h6 => ?_)
            · have hn : ∃ q : Nat, ((hx:Int)-1) = (q : Int) ∧ q ≤ m := ⟨(((hx:Int)-1)).toNat, by omega, by omega⟩
              obtain ⟨q, hq, hqm⟩ := hn
              have hrq : Row G3.heap A8 q ((deeds e q).map (Value.int .i64)) := by
                have := (hr8.le hu3.heap).take hqm
                rwa [← List.map_take, deeds_take e m q hqm] at this
              have hrq1 : Row G3.heap A8 (q * 1) ((deeds e q).map (Value.int .i64)) := by rw [Nat.mul_one]; exact hrq
              repeat (first | refine VC.seq ?_ | refine VC.block ?_ | refine VC.skip ?_)
              refine VC.loud (Kept G3 []) [2, 6, 8] rfl (by kernel_rfl) (Kept.of0 hm.drew) ?_
              replace hm := hm.drew
              refine VL.pure rfl rfl rfl (p_moveI rfl) ?_
              refine VL.pure rfl rfl rfl (p_moveL rfl) ?_
              refine VL.call rfl rfl rfl (r_call1 Try.call20 rfl) (copy_zxids_c hm (by omega) (hr7.le hu3.heap)) ?_
              rintro _ w ⟨A9, c9, L9, rfl, ho9, hm⟩
              refine ⟨Kept.of0 hm, ?_⟩
              refine VL.pure rfl rfl rfl (p_moveL rfl) ?_
              refine VL.pure rfl rfl rfl (p_moveI rfl) ?_
              refine VL.pure rfl rfl rfl (p_sliceHN (h := q) Try.underlying23 Try.sizeOf22 rfl (congrArg (Value.int .i64) hq) (by omega)) ?_
              refine VL.append (s := 1) (bytes := 8) Try.underlying23 inf22 rfl rfl rfl rfl rfl rfl rfl rfl rfl rfl hm ho9 (hrq1.mono hm.fix) (ints_one _) rfl ⟨by unfold maxLen; omega, by omega⟩ (fun A' c' w' L' ho' hm' => Kept.of0 hm') ?_
              intro A10 c10 w L10 ho10 hm
              refine VL.pure rfl rfl rfl (p_idxA1 Try.underlying33 Try.sizeOf23 rfl rfl hs4') ?_
              refine VL.store (cs' := (cells4 (setSl H3 s ⟨A10, nb + q, c10, begun ++ deeds e q⟩))) (v := .slice _ _ _) Try.sizeOf23 rfl rfl rfl rfl rfl rfl hm 1 0 rfl (by show 0 + s + 1 ≤ 4; omega) (cells4_set H3 hs4' ⟨A10, nb + q, c10, begun ++ deeds e q⟩) (fun w' hm' => Kept.of0 hm') ?_
              intro w hm
              refine VL.nil ?_
              obtain ⟨G4, hu4, hm, hG4⟩ := hm.freeze
              have hr10 := ho10.row1 hG4
              have hle10 := ho10.le
              repeat (first | refine VC.seq ?_ | refine VC.block ?_ | refine VC.skip ?_)
              refine VC.region ?_
              refine VR.pure rfl rfl (p_moveI rfl) ?_
              refine VR.pure rfl rfl (p_add64 rfl rfl (by omega)) ?_
              refine VR.pure rfl rfl (p_assignI rfl) ?_
              refine VR.nil ?_
              refine ⟨(s + 1, G4, setSl H3 s ⟨A10, nb + q, c10, begun ++ deeds e q⟩), ⟨rfl, rfl, rfl, rfl, rfl, rfl, rfl, rfl, rfl, trivial⟩, ⟨hu3.trans hu4, hm, (hok3.mono hu4.heap fun _ h => h).set ⟨?_, hle10.1, hle10.2, .inr ⟨q, by omega, rfl⟩⟩, by simp only; omega⟩, by simp only; omega⟩
              dsimp only
              rw [List.map_append]
              exact hr10
            · repeat (first | refine VC.seq ?_ | refine VC.block ?_ | refine VC.skip ?_)
              refine VC.region ?_
              refine VR.pure rfl rfl (p_moveI rfl) ?_
              refine VR.pure rfl rfl (p_add64 rfl rfl (by omega)) ?_
              refine VR.pure rfl rfl (p_assignI rfl) ?_
              refine VR.nil ?_
              exact ⟨(s + 1, G3, H3), ⟨rfl, rfl, rfl, rfl, rfl, rfl, rfl, rfl, rfl, trivial⟩, ⟨hu3, hm, hok3, by simp only; omega⟩, by simp only; omega⟩
        · repeat (first | refine VC.seq ?_ | refine VC.block ?_ | refine VC.skip ?_)
          refine VC.exit ?_
          repeat (first | refine VC.seq ?_ | refine VC.block ?_ | refine VC.skip ?_)
          refine VC.region ?_
          refine VR.pure rfl rfl (p_moveI rfl) ?_
          refine VR.pure rfl rfl (p_add64 rfl rfl (by omega)) ?_
          refine VR.pure rfl rfl (p_assignI rfl) ?_
          refine VR.nil ?_
          exact ⟨(e + 1, G3, H3), ⟨rfl, rfl, rfl, rfl, trivial⟩, ⟨hu.trans hu3, hm, by simp only; omega, _, hgood2, hok3⟩, by simp only; omega⟩

end Go.Bd
