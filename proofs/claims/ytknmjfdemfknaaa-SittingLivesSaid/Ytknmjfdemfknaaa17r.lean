/- Layer 17: a book and the document's one, step by step. Conditions: as each states. -/
import Derived.Test.Ytknmjfdemfknaaa17h
namespace Go.Bd
open Go.Proofs
set_option linter.unusedVariables false
set_option maxRecDepth 20000

/-! ### Plain law: the same book, in another order -/
structure Sm (b r : Ba) : Prop where
  time : b.now = r.now
  perm : b.fs.Perm r.fs
  asc : Asc r.fs
theorem Apart.perm {a b : List Sa} (h : Apart b) (hp : a.Perm b) : Apart a := by
  have h1 : (b.map (·.1)).Nodup := List.pairwise_map.2 h
  have h2 : (a.map (·.1)).Nodup := (hp.map (·.1)).nodup_iff.2 h1
  exact List.pairwise_map.1 h2
theorem inS_perm {a b : List Sa} (hp : a.Perm b) (hb : Apart b) (s : Int) : inS a s = inS b s := by
  have ha := hb.perm hp
  cases h : inS a s with
  | none =>
    have hno : ∀ f ∈ b, f.1 ≠ s := fun f hf e => by
      have := inS_iff (fs := a) (s := s)
      rw [h] at this
      exact absurd (this.2 ⟨f, hp.mem_iff.2 hf, e⟩) (by decide)
    exact (inS_none hno).symm
  | some x =>
    obtain ⟨hx, hs⟩ := inS_some h
    obtain ⟨i, hi, e⟩ := List.mem_iff_getElem.1 (hp.mem_iff.1 hx)
    have := inS_at hb (i := i) (f := x) (by rw [List.getElem?_eq_getElem hi, e])
    rw [hs] at this
    exact this.symm
theorem putS_same {a b : List Sa} (hp : a.Perm b) (hb : Apart b) (x : Sa) : (putS a x).Perm (putS b x) :=
  (putS_perm (hb.perm hp) x).trans (((hp.filter _).append_right [x]).trans (putS_perm hb x).symm)
theorem Sm.apart {b r : Ba} (h : Sm b r) : Apart b.fs := h.asc.apart.perm h.perm
theorem Sm.add {b r r' : Ba} {s t : Int} (h : Sm b r) (hn : r'.now = r.now) (hp : r'.fs.Perm (addB r s t).2.fs) (ha : Asc r'.fs) : (addB b s t).1 = (addB r s t).1 ∧ Sm (addB b s t).2 r' := by
  unfold addB at hp ⊢
  by_cases hc : s < 1 ∨ t < 1 ∨ 1000 < t
  · rw [if_pos hc] at hp
    rw [if_pos hc, if_pos hc]
    exact ⟨rfl, by rw [hn]; exact h.time, h.perm.trans hp.symm, ha⟩
  · rw [if_neg hc] at hp
    rw [if_neg hc, if_neg hc]
    refine ⟨rfl, by rw [hn]; exact h.time, ?_, ha⟩
    rw [h.time]
    exact (putS_same h.perm h.asc.apart _).trans hp.symm
theorem asc_put {fs : List Sa} {x f : Sa} (h : Asc fs) (hx : inS fs x.1 = some f) : Asc (putS fs x) := by
  unfold putS
  rw [hx]
  have h1 : (fs.map (·.1)).Pairwise (· < ·) := List.pairwise_map.2 h
  refine List.pairwise_map.1 (?_ : ((fs.map fun f => if f.1 = x.1 then x else f).map (·.1)).Pairwise (· < ·))
  have e : (fs.map fun f => if f.1 = x.1 then x else f).map (·.1) = fs.map (·.1) := by
    rw [List.map_map]
    apply List.map_congr_left
    intro f _
    show (if f.1 = x.1 then x else f).1 = f.1
    split
    · exact Eq.symm (by assumption)
    · rfl
  rw [e]
  exact h1
theorem Sm.touch {b r : Ba} (h : Sm b r) (s : Int) : (touchB b s).1 = (touchB r s).1 ∧ Sm (touchB b s).2 (touchB r s).2 := by
  have e := inS_perm h.perm h.asc.apart s
  unfold touchB
  rw [e]
  cases hx : inS r.fs s with
  | none => exact ⟨rfl, h⟩
  | some x =>
    refine ⟨rfl, h.time, ?_, asc_put (f := x) h.asc hx⟩
    show (putS b.fs (s, x.2.1, endOf b.now x.2.1)).Perm (putS r.fs (s, x.2.1, endOf r.now x.2.1))
    rw [h.time]
    exact putS_same h.perm h.asc.apart _
theorem Sm.remove {b r : Ba} (h : Sm b r) (s : Int) : (removeB b s).1 = (removeB r s).1 ∧ Sm (removeB b s).2 (removeB r s).2 := by
  have e := inS_perm h.perm h.asc.apart s
  unfold removeB
  rw [e]
  cases hx : inS r.fs s with
  | none => exact ⟨rfl, h⟩
  | some x => exact ⟨rfl, h.time, h.perm.filter _, h.asc.sublist List.filter_sublist⟩
theorem Sm.tick {b r : Ba} (h : Sm b r) (t : Int) : sortI (goneB b t) = goneB r t ∧ Sm (tickB b t) (tickB r t) := by
  constructor
  · refine sortI_is ?_ ?_
    · unfold goneB
      rw [h.time]
      exact (h.perm.filter _).map _
    · unfold goneB
      exact List.pairwise_map.2 ((h.asc.sublist List.filter_sublist).imp fun h => by omega)
  · unfold tickB
    rw [h.time]
    exact ⟨rfl, h.perm.filter _, h.asc.sublist List.filter_sublist⟩
theorem Sm.all {b r : Ba} (h : Sm b r) : sortI (b.fs.map (·.1)) = names r := by
  refine sortI_is (h.perm.map _) ?_
  unfold names
  exact List.pairwise_map.2 (h.asc.imp fun h => by omega)
theorem Sm.times {B : Bk} {r : Ba} (h : Sm B.abs r) (hB : BkOk B) : 0 ≤ r.now ∧ r.now ≤ 1152921504606846976 ∧ ∀ f ∈ r.fs, 1 ≤ f.2.1 ∧ f.2.1 ≤ 1000 := by
  have h1 : B.now = r.now := h.time
  refine ⟨by rw [← h1]; exact hB.now.1, by rw [← h1]; exact hB.now.2, fun f hf => ?_⟩
  obtain ⟨x, hx, rfl⟩ := List.mem_map.1 (h.perm.mem_iff.2 hf)
  have := hB.each x hx
  exact ⟨this.2.1, this.2.2.1⟩
theorem Sm.len {B : Bk} {r : Ba} (h : Sm B.abs r) : r.fs.length = B.fs.length := by
  have h1 : B.abs.fs.length = B.fs.length := List.length_map _
  rw [← h1, h.perm.length_eq]

/-! ### Both in memory -/
section
variable {F : Env} {w : World} {Ls : List Blks} {g m gr : Nat} {B : Bk} {r : Ba} {s t : Int} {A : Option Addr} {c : Nat} {L : Blks}
abbrev OwnR (r : Ba) (A : Option Addr) (c : Nat) (L : Blks) : Prop := OwnS 57 3 A r.fs.length c (rcells r.fs) L
abbrev two (g m : Nat) (B : Bk) (gr : Nat) (r : Ba) (A : Option Addr) (c : Nat) (L : Blks) : List Blks := bkB g m B ++ ([(gr, rbook r A c)] :: L :: [])
theorem two_perm (X L : Blks) (B Ls : List Blks) : (X :: L :: (B ++ Ls)).flatten.Perm (B ++ (X :: L :: Ls)).flatten := by
  have h := (List.perm_append_comm (l₁ := [X, L]) (l₂ := B)).append_right Ls
  have h2 : (X :: L :: (B ++ Ls)).Perm (B ++ (X :: L :: Ls)) := by
    have e1 : [X, L] ++ B ++ Ls = X :: L :: (B ++ Ls) := by simp
    have e2 : B ++ [X, L] ++ Ls = B ++ (X :: L :: Ls) := by simp
    rw [e1, e2] at h
    exact h
  exact h2.flatten
theorem RMem.of (ho : OwnR r A c L) (hm : Mem F w (two g m B gr r A c L)) : RMem F w gr r (bkB g m B) := by
  refine ⟨A, c, L, ho, hm.permF ?_⟩
  have := (two_perm [(gr, rbook r A c)] L (bkB g m B) []).symm
  rwa [List.append_nil] at this
theorem RMem.to (h : RMem F w gr r (bkB g m B)) : ∃ A c L, OwnR r A c L ∧ Mem F w (two g m B gr r A c L) := by
  obtain ⟨A, c, L, ho, hm⟩ := h
  refine ⟨A, c, L, ho, hm.permF ?_⟩
  have := two_perm [(gr, rbook r A c)] L (bkB g m B) []
  rwa [List.append_nil] at this
theorem radd2 (ho : OwnR r A c L) (hm : Mem F w (two g m B gr r A c L)) (hasc : Asc r.fs) (hl : r.fs.length ≤ 1000000) (hn : 0 ≤ r.now ∧ r.now ≤ 1152921504606846976) :
    Calls Try.prog 25 #[.pointer (some ⟨gr, 0, none⟩), .int .i64 s, .int .i64 t] w (Ret fun v w' => ∃ r' A' c' L', v = .int .i64 (addB r s t).1 ∧ r'.now = r.now ∧ r'.fs.Perm (addB r s t).2.fs ∧ Asc r'.fs ∧ OwnR r' A' c' L' ∧ Mem F w' (two g m B gr r' A' c' L')) :=
  Ret.mono (radd_c (RMem.of ho hm) hasc hl hn) fun v w' ⟨r', h1, h2, h3, h4, h5⟩ => by
    obtain ⟨A', c', L', ho', hm'⟩ := h5.to
    exact ⟨r', A', c', L', h1, h2, h3, h4, ho', hm'⟩
theorem rtouch2 (ho : OwnR r A c L) (hm : Mem F w (two g m B gr r A c L)) (hap : Apart r.fs) (hl : r.fs.length ≤ 1000000) (hn : 0 ≤ r.now ∧ r.now ≤ 1152921504606846976) (ht : ∀ f ∈ r.fs, 1 ≤ f.2.1 ∧ f.2.1 ≤ 1000) :
    Calls Try.prog 26 #[.pointer (some ⟨gr, 0, none⟩), .int .i64 s] w (Ret fun v w' => ∃ A' c' L', v = .bool (touchB r s).1 ∧ OwnR (touchB r s).2 A' c' L' ∧ Mem F w' (two g m B gr (touchB r s).2 A' c' L')) :=
  Ret.mono (rtouch_c (RMem.of ho hm) hap hl hn ht) fun v w' ⟨h1, h5⟩ => by
    obtain ⟨A', c', L', ho', hm'⟩ := h5.to
    exact ⟨A', c', L', h1, ho', hm'⟩
theorem rremove2 (ho : OwnR r A c L) (hm : Mem F w (two g m B gr r A c L)) (hap : Apart r.fs) (hl : r.fs.length ≤ 1000000) :
    Calls Try.prog 27 #[.pointer (some ⟨gr, 0, none⟩), .int .i64 s] w (Ret fun v w' => ∃ A' c' L', v = .bool (removeB r s).1 ∧ OwnR (removeB r s).2 A' c' L' ∧ Mem F w' (two g m B gr (removeB r s).2 A' c' L')) :=
  Ret.mono (rremove_c (RMem.of ho hm) hap hl) fun v w' ⟨h1, h5⟩ => by
    obtain ⟨A', c', L', ho', hm'⟩ := h5.to
    exact ⟨A', c', L', h1, ho', hm'⟩
theorem rtick2 (ho : OwnR r A c L) (hm : Mem F w (two g m B gr r A c L)) (hl : r.fs.length ≤ 1000000) :
    Calls Try.prog 28 #[.pointer (some ⟨gr, 0, none⟩), .int .i64 t] w (Ret fun v w' => ∃ O o G, v = .slice O (goneB r t).length o ∧ F.under G ∧ Row G.heap O (goneB r t).length (longs (goneB r t)) ∧ ∃ A' c' L', OwnR (tickB r t) A' c' L' ∧ Mem G w' (two g m B gr (tickB r t) A' c' L')) :=
  Ret.mono (rtick_c (RMem.of ho hm) hl) fun v w' ⟨O, o, M, h1, h2, A', c', L', ho', hm'⟩ => by
    obtain ⟨G, hu, hm2, hG⟩ := ((hm'.pull 2 rfl) : Mem F w' (M :: [(gr, rbook (tickB r t) A' c')] :: L' :: bkB g m B)).freeze
    obtain ⟨A2, c2, L2, ho2, hm3⟩ := RMem.to ⟨A', c', L', ho', hm2⟩
    exact ⟨O, o, G, h1, hu, h2.row1 hG, A2, c2, L2, ho2, hm3⟩
theorem rall2 (ho : OwnR r A c L) (hm : Mem F w (two g m B gr r A c L)) (hl : r.fs.length ≤ 1000000) :
    Calls Try.prog 19 #[.pointer (some ⟨gr, 0, none⟩)] w (Ret fun v w' => ∃ O o G, v = .slice O (names r).length o ∧ F.under G ∧ Row G.heap O (names r).length (longs (names r)) ∧ Mem G w' (two g m B gr r A c L)) :=
  Ret.mono (rall_c (r := r) hm.all (hm.plus_at 2 0 rfl) (ho.row (hm.plus_i 3 rfl)) hl) fun v w' ⟨O, o, M, h1, h2, hm'⟩ => by
    obtain ⟨G, hu, hm2, hG⟩ := (show Mem F w' (M :: two g m B gr r A c L) from hm.back hm').freeze
    exact ⟨O, o, G, h1, hu, h2.row1 hG, hm2⟩

set_option maxHeartbeats 4000000 in
theorem step_c {x : Dd} (ho : OwnR r A c L) (hm : Mem F w (two g m B gr r A c L)) (hB : BkOk B) (hs : Sm B.abs r) (hlen : B.fs.length ≤ 1000) :
    Calls Try.prog 18 #[.pointer (some ⟨g, 0, none⟩), .pointer (some ⟨gr, 0, none⟩), .agg #[.int .i64 x.op, .int .i64 x.s, .int .i64 x.t, .int .i64 x.now]] w
      (Ret fun v w' => v = .bool true ∧ ∃ B' r' A' c' L', BkOk B' ∧ Sm B'.abs r' ∧ B'.fs.length ≤ B.fs.length + 1 ∧ OwnR r' A' c' L' ∧ Mem F w' (two g m B' gr r' A' c' L')) := by
  have hrl := hs.len
  have htm := hs.times hB
  have hbl : B.abs.fs.length ≤ 1000000 := by
    have h1 : B.abs.fs.length = B.fs.length := List.length_map _
    omega
  refine Calls.of_vc Try.func18 rfl Try.ntmps18 rfl ?_
  repeat (first | refine VC.seq ?_ | refine VC.block ?_ | refine VC.skip ?_)
  refine VC.region ?_
  refine VR.new hm rfl rfl (n_boxG rfl) ?_
  intro bx w hm
  refine VR.pure rfl rfl (p_assignB rfl) ?_
  refine VR.nil ?_
  obtain ⟨G, hu, hm, hb⟩ := (show Mem F w ([(bx, .cells #[.int .i64 x.op, .int .i64 x.s, .int .i64 x.t, .int .i64 x.now] 29 (0, 0))] :: two g m B gr r A c L) from hm).freeze
  replace hb := hb _ (.head _)
  repeat (first | refine VC.seq ?_ | refine VC.block ?_ | refine VC.skip ?_)
  refine VC.region ?_
  refine VR.pure rfl rfl (p_field (fo := 0) Try.underlying29 rfl Try.sizeOf3 rfl rfl rfl) ?_
  refine VR.val rfl rfl (r_load (v := .int _ _) Try.isAgg3 rfl (hm.fix _ _ hb) rfl) ?_
  refine VR.call rfl rfl (r_call2 Try.call10 rfl rfl) (pick_c (n := 5) (by decide)) ?_
  rintro _ _ ⟨⟨q, hq, rfl⟩, rfl⟩
  refine VR.nil ?_
  repeat (first | refine VC.seq ?_ | refine VC.block ?_ | refine VC.skip ?_)
  repeat (first | refine VC.seq ?_ | refine VC.block ?_ | refine VC.skip ?_)
  refine VC.region ?_
  refine VR.pure rfl rfl (p_eq rfl rfl) ?_
  refine VR.pure rfl rfl (p_assignB rfl) ?_
  refine VR.nil ?_
  repeat (first | refine VC.seq ?_ | refine VC.block ?_ | refine VC.skip ?_)
  refine VC.condD rfl (fun h2 => ?_) (fun h2 => ?_)
  · repeat (first | refine VC.seq ?_ | refine VC.block ?_ | refine VC.skip ?_)
    refine VC.loud (Kept G []) [5, 11] rfl (by kernel_rfl) (Kept.of0 hm.drew) ?_
    replace hm := hm.drew
    refine VL.pure rfl rfl rfl (p_moveP rfl) ?_
    refine VL.pure rfl rfl rfl (p_field (fo := 1) Try.underlying29 rfl Try.sizeOf2 rfl rfl rfl) ?_
    refine VL.read rfl rfl rfl (fun w' hw' => r_load (v := .int _ _) Try.isAgg2 rfl (hw'.fix _ _ hb) rfl) ?_
    refine VL.pure rfl rfl rfl (p_field (fo := 2) Try.underlying29 rfl Try.sizeOf3 rfl rfl rfl) ?_
    refine VL.read rfl rfl rfl (fun w' hw' => r_load (v := .int _ _) Try.isAgg3 rfl (hw'.fix _ _ hb) rfl) ?_
    refine VL.call rfl rfl rfl (r_call3 Try.call11 rfl rfl rfl) (addK hm hB rfl rfl) ?_
    rintro _ w ⟨B', rfl, he, hB', hm⟩
    refine ⟨Kept.of0 hm, ?_⟩
    refine VL.pure rfl rfl rfl (p_moveP rfl) ?_
    refine VL.pure rfl rfl rfl (p_field (fo := 1) Try.underlying29 rfl Try.sizeOf2 rfl rfl rfl) ?_
    refine VL.read rfl rfl rfl (fun w' hw' => r_load (v := .int _ _) Try.isAgg2 rfl (hw'.fix _ _ hb) rfl) ?_
    refine VL.pure rfl rfl rfl (p_field (fo := 2) Try.underlying29 rfl Try.sizeOf3 rfl rfl rfl) ?_
    refine VL.read rfl rfl rfl (fun w' hw' => r_load (v := .int _ _) Try.isAgg3 rfl (hw'.fix _ _ hb) rfl) ?_
    refine VL.call rfl rfl rfl (r_call3 Try.call25 rfl rfl rfl) (radd2 ho hm hs.asc (by omega) ⟨htm.1, htm.2.1⟩) ?_
    rintro _ w ⟨r', A', c', L', rfl, hn', hp', ha', ho', hm⟩
    refine ⟨Kept.of0 hm, ?_⟩
    refine VL.pure rfl rfl rfl (p_eq rfl rfl) ?_
    refine VL.pure rfl rfl rfl (p_assignB rfl) ?_
    refine VL.nil ?_
    obtain ⟨e1, hs'⟩ := hs.add hn' hp' ha'
    repeat (first | refine VC.seq ?_ | refine VC.block ?_ | refine VC.skip ?_)
    refine VC.ret ⟨_, ResOf.r1 (v := .bool _) rfl rfl, ?_⟩
    exact ⟨congrArg Value.bool (decide_eq_true e1), B', r', A', c', L', hB', by rw [he]; exact hs', step_len he (addB_len _ _ _) (Nat.le_refl _), ho', hm.shrink hu⟩
  · repeat (first | refine VC.seq ?_ | refine VC.block ?_ | refine VC.skip ?_)
    refine VC.region ?_
    refine VR.pure rfl rfl (p_eq rfl rfl) ?_
    refine VR.pure rfl rfl (p_assignB rfl) ?_
    refine VR.nil ?_
    repeat (first | refine VC.seq ?_ | refine VC.block ?_ | refine VC.skip ?_)
    refine VC.condD rfl (fun h4 => ?_) (fun h4 => ?_)
    · obtain ⟨q1, b1, hq1⟩ : ∃ q1 b1, touchB B.abs x.s = (q1, b1) := ⟨_, _, rfl⟩
      repeat (first | refine VC.seq ?_ | refine VC.block ?_ | refine VC.skip ?_)
      refine VC.loud (Kept G []) [3, 7] rfl (by kernel_rfl) (Kept.of0 hm.drew) ?_
      replace hm := hm.drew
      refine VL.pure rfl rfl rfl (p_moveP rfl) ?_
      refine VL.pure rfl rfl rfl (p_field (fo := 1) Try.underlying29 rfl Try.sizeOf2 rfl rfl rfl) ?_
      refine VL.read rfl rfl rfl (fun w' hw' => r_load (v := .int _ _) Try.isAgg2 rfl (hw'.fix _ _ hb) rfl) ?_
      refine VL.call rfl rfl rfl (r_call2 Try.call12 rfl rfl) (touchK hm hB rfl hq1) ?_
      rintro _ w ⟨B', rfl, he, hB', hm⟩
      refine ⟨Kept.of0 hm, ?_⟩
      refine VL.pure rfl rfl rfl (p_moveP rfl) ?_
      refine VL.pure rfl rfl rfl (p_field (fo := 1) Try.underlying29 rfl Try.sizeOf2 rfl rfl rfl) ?_
      refine VL.read rfl rfl rfl (fun w' hw' => r_load (v := .int _ _) Try.isAgg2 rfl (hw'.fix _ _ hb) rfl) ?_
      refine VL.call rfl rfl rfl (r_call2 Try.call26 rfl rfl) (rtouch2 ho hm hs.asc.apart (by omega) ⟨htm.1, htm.2.1⟩ htm.2.2) ?_
      rintro _ w ⟨A', c', L', rfl, ho', hm⟩
      refine ⟨Kept.of0 hm, ?_⟩
      refine VL.pure rfl rfl rfl (p_eqB Try.underlying4 rfl rfl) ?_
      refine VL.pure rfl rfl rfl (p_assignB rfl) ?_
      refine VL.nil ?_
      obtain ⟨e1, hs'⟩ := hs.touch x.s
      rw [hq1] at e1 hs'
      repeat (first | refine VC.seq ?_ | refine VC.block ?_ | refine VC.skip ?_)
      refine VC.ret ⟨_, ResOf.r1 (v := .bool _) rfl rfl, ?_⟩
      refine ⟨congrArg Value.bool ?_, B', _, A', c', L', hB', by rw [he]; exact hs', step_len he (touch_len hq1) (Nat.le_refl _), ho', hm.shrink hu⟩
      rw [← e1]
      exact beq_self_eq_true _
    · repeat (first | refine VC.seq ?_ | refine VC.block ?_ | refine VC.skip ?_)
      refine VC.region ?_
      refine VR.pure rfl rfl (p_eq rfl rfl) ?_
      refine VR.pure rfl rfl (p_assignB rfl) ?_
      refine VR.nil ?_
      repeat (first | refine VC.seq ?_ | refine VC.block ?_ | refine VC.skip ?_)
      refine VC.condD rfl (fun h6 => ?_) (fun h6 => ?_)
      · obtain ⟨q1, b1, hq1⟩ : ∃ q1 b1, removeB B.abs x.s = (q1, b1) := ⟨_, _, rfl⟩
        repeat (first | refine VC.seq ?_ | refine VC.block ?_ | refine VC.skip ?_)
        refine VC.loud (Kept G []) [3, 7] rfl (by kernel_rfl) (Kept.of0 hm.drew) ?_
        replace hm := hm.drew
        refine VL.pure rfl rfl rfl (p_moveP rfl) ?_
        refine VL.pure rfl rfl rfl (p_field (fo := 1) Try.underlying29 rfl Try.sizeOf2 rfl rfl rfl) ?_
        refine VL.read rfl rfl rfl (fun w' hw' => r_load (v := .int _ _) Try.isAgg2 rfl (hw'.fix _ _ hb) rfl) ?_
        refine VL.call rfl rfl rfl (r_call2 Try.call13 rfl rfl) (removeK hm hB rfl hq1) ?_
        rintro _ w ⟨B', rfl, he, hB', hm⟩
        refine ⟨Kept.of0 hm, ?_⟩
        refine VL.pure rfl rfl rfl (p_moveP rfl) ?_
        refine VL.pure rfl rfl rfl (p_field (fo := 1) Try.underlying29 rfl Try.sizeOf2 rfl rfl rfl) ?_
        refine VL.read rfl rfl rfl (fun w' hw' => r_load (v := .int _ _) Try.isAgg2 rfl (hw'.fix _ _ hb) rfl) ?_
        refine VL.call rfl rfl rfl (r_call2 Try.call27 rfl rfl) (rremove2 ho hm hs.asc.apart (by omega)) ?_
        rintro _ w ⟨A', c', L', rfl, ho', hm⟩
        refine ⟨Kept.of0 hm, ?_⟩
        refine VL.pure rfl rfl rfl (p_eqB Try.underlying4 rfl rfl) ?_
        refine VL.pure rfl rfl rfl (p_assignB rfl) ?_
        refine VL.nil ?_
        obtain ⟨e1, hs'⟩ := hs.remove x.s
        rw [hq1] at e1 hs'
        repeat (first | refine VC.seq ?_ | refine VC.block ?_ | refine VC.skip ?_)
        refine VC.ret ⟨_, ResOf.r1 (v := .bool _) rfl rfl, ?_⟩
        refine ⟨congrArg Value.bool ?_, B', _, A', c', L', hB', by rw [he]; exact hs', step_len he (remove_len hq1) (Nat.le_refl _), ho', hm.shrink hu⟩
        rw [← e1]
        exact beq_self_eq_true _
      · repeat (first | refine VC.seq ?_ | refine VC.block ?_ | refine VC.skip ?_)
        obtain ⟨e1, hs'⟩ := hs.tick x.now
        have hgl : (goneB r x.now).length ≤ 1000 := by
          unfold goneB
          rw [List.length_map]
          exact Nat.le_trans (List.length_filter_le _ _) (by omega)
        repeat (first | refine VC.seq ?_ | refine VC.block ?_ | refine VC.skip ?_)
        refine VC.loud (Kept G []) [3, 7, 8] rfl (by kernel_rfl) (Kept.of0 hm.drew) ?_
        replace hm := hm.drew
        refine VL.pure rfl rfl rfl (p_moveP rfl) ?_
        refine VL.pure rfl rfl rfl (p_field (fo := 3) Try.underlying29 rfl Try.sizeOf2 rfl rfl rfl) ?_
        refine VL.read rfl rfl rfl (fun w' hw' => r_load (v := .int _ _) Try.isAgg2 rfl (hw'.fix _ _ hb) rfl) ?_
        refine VL.call rfl rfl rfl (r_call2 Try.call14 rfl rfl) (tickK hm hB rfl hbl e1 rfl) ?_
        rintro _ w ⟨A3, c3, G3, B', rfl, _, _, hu3, hr3, he, hB', hm⟩
        refine ⟨Kept.of0 (hm.shrink hu3), ?_⟩
        refine VL.pure rfl rfl rfl (p_moveP rfl) ?_
        refine VL.pure rfl rfl rfl (p_field (fo := 3) Try.underlying29 rfl Try.sizeOf2 rfl rfl rfl) ?_
        refine VL.read rfl rfl rfl (fun w' hw' => r_load (v := .int _ _) Try.isAgg2 rfl (hw'.fix _ _ hb) rfl) ?_
        refine VL.call rfl rfl rfl (r_call2 Try.call28 rfl rfl) (rtick2 ho hm (by omega)) ?_
        rintro _ w ⟨O, o, G7, rfl, hu7, hr7, A', c', L', ho', hm⟩
        refine ⟨Kept.of0 (hm.shrink (hu3.trans hu7)), ?_⟩
        refine VL.call rfl rfl rfl (r_call2 Try.call15 rfl rfl) (same_longs_c hm (by unfold maxLen; omega) (hr3.mono hu7.heap) hr7) ?_
        rintro _ w ⟨rfl, hm⟩
        refine ⟨Kept.of0 (hm.shrink (hu3.trans hu7)), ?_⟩
        refine VL.pure rfl rfl rfl (p_assignB rfl) ?_
        refine VL.nil ?_
        repeat (first | refine VC.seq ?_ | refine VC.block ?_ | refine VC.skip ?_)
        refine VC.ret ⟨_, ResOf.r1 (v := .bool _) rfl rfl, ?_⟩
        exact ⟨congrArg Value.bool (decide_eq_true rfl), B', _, A', c', L', hB', by rw [he]; exact hs', step_len he (Nat.le_succ_of_le (tickB_len _ _)) (Nat.le_refl _), ho', hm.shrink ((hu.trans hu3).trans hu7)⟩
end
end Go.Bd
