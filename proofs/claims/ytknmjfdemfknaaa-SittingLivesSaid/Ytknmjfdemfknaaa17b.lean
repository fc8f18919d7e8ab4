/- Contracts of layer 17: all sessions, a tick. Conditions: as each states. -/
import Derived.Test.Ytknmjfdemfknaaa17a
import Derived.Test.Ytknmjfdemfknaaa17s
namespace Go.Bd
open Go.Proofs
set_option linter.unusedVariables false
set_option maxRecDepth 20000

theorem longs_one (l : List Int) : ∀ u ∈ longs l, u.oneCell' = true := by
  intro u hu
  obtain ⟨x, _, rfl⟩ := List.mem_map.1 hu
  rfl
/-- How many of some times have not been seen. -/
def unseen (bs : List Nat) (seen : Array Nat) : Nat := (bs.filter fun b => decide (b ∉ seen.toList)).length
theorem unseen_lt {bs : List Nat} {seen : Array Nat} {b : Nat} (hb : b ∈ bs) (hn : b ∉ seen.toList) : unseen bs (seen.push b) < unseen bs seen := by
  unfold unseen
  have hsub : (bs.filter fun x => decide (x ∉ (seen.push b).toList)).Sublist (bs.filter fun x => decide (x ∉ seen.toList)) := by
    have : (bs.filter fun x => decide (x ∉ (seen.push b).toList)) = (bs.filter fun x => decide (x ∉ seen.toList)).filter fun x => decide (x ≠ b) := by
      rw [List.filter_filter]
      apply List.filter_congr
      intro x _
      simp only [Array.toList_push, List.mem_append, List.mem_singleton, not_or]
      by_cases h1 : x ∈ seen.toList <;> by_cases h2 : x = b <;> simp [h1, h2]
    rw [this]
    exact List.filter_sublist
  have hle := hsub.length_le
  rcases Nat.lt_or_ge (bs.filter fun x => decide (x ∉ (seen.push b).toList)).length (bs.filter fun x => decide (x ∉ seen.toList)).length with h | h
  · exact h
  · have heq := hsub.eq_of_length (Nat.le_antisymm hle h)
    have hmem : b ∈ (bs.filter fun x => decide (x ∉ seen.toList)) := List.mem_filter.2 ⟨hb, decide_eq_true hn⟩
    rw [← heq] at hmem
    have := (List.mem_filter.1 hmem).2
    simp at this
theorem perm_out {α : Type} {l : List α} {i : Nat} {x : α} (h : l[i]? = some x) : l.Perm (x :: l.eraseIdx i) := by
  induction l generalizing i with
  | nil => simp at h
  | cons a r ih =>
    cases i with
    | zero =>
      obtain rfl := Option.some.inj (show some a = some x from h)
      exact List.Perm.refl _
    | succ j => exact ((ih (i := j) h).cons a).trans (List.Perm.swap x a _)
def seenSe (fs : List Se) (seen : Array Nat) : List Se := fs.filter fun f => decide (f.born ∈ seen.toList)
theorem seen_push {fs : List Se} {seen : Array Nat} {i : Nat} {f : Se} (hi : fs[i]? = some f) (hn : (fs.map (·.born)).Nodup) (hf : f.born ∉ seen.toList) : (seenSe fs (seen.push f.born)).Perm (f :: seenSe fs seen) := by
  have hp := perm_out hi
  have hnd : ((f :: fs.eraseIdx i).map (·.born)).Nodup := (hp.map (·.born)).nodup_iff.1 hn
  rw [List.map_cons, List.nodup_cons] at hnd
  have h1 : (seenSe fs (seen.push f.born)).Perm (seenSe (f :: fs.eraseIdx i) (seen.push f.born)) := hp.filter _
  have h2 : (seenSe fs seen).Perm (seenSe (f :: fs.eraseIdx i) seen) := hp.filter _
  have e1 : seenSe (f :: fs.eraseIdx i) (seen.push f.born) = f :: seenSe (fs.eraseIdx i) (seen.push f.born) := List.filter_cons_of_pos (by simp)
  have e2 : seenSe (f :: fs.eraseIdx i) seen = seenSe (fs.eraseIdx i) seen := List.filter_cons_of_neg (by simpa using hf)
  have e3 : seenSe (fs.eraseIdx i) (seen.push f.born) = seenSe (fs.eraseIdx i) seen := List.filter_congr fun x hx => by
    have hne : x.born ≠ f.born := fun e => hnd.1 (List.mem_map.2 ⟨x, hx, e⟩)
    have : x.born ∈ (seen.push f.born).toList ↔ x.born ∈ seen.toList := by simp [hne]
    exact decide_eq_decide.2 this
  rw [e1, e3] at h1
  rw [e2] at h2
  exact h1.trans (h2.symm.cons f)
theorem BkOk.borns {B : Bk} (h : BkOk B) : (B.fs.map (·.born)).Nodup := by
  have := h.ents.nodup
  rwa [List.map_map] at this
theorem Mem.aside {F : Env} {w : World} {Ls : List Blks} (h : Mem F w Ls) : ∃ K, F.under K ∧ Mem K w [] ∧ (∀ L ∈ Ls, ∀ p ∈ L, K.heap p.1 = some p.2) ∧ ∀ {w' : World} {As : List Blks}, Mem K w' As → Mem F w' (As ++ Ls) :=
  ⟨F.plus Ls, ⟨rfl, rfl, rfl, h.le⟩, h.all, fun L hL => h.plus_mem hL, fun h' => h.back h'⟩

set_option maxHeartbeats 2000000 in
theorem all_c {F : Env} {w : World} {g m : Nat} {B : Bk} (hm : Mem F w (bkB g m B)) (hB : BkOk B) (hlen : B.fs.length ≤ 1000000) :
    Calls Try.prog 16 #[.pointer (some ⟨g, 0, none⟩)] w (Ret fun v w' => ∃ A c L, v = .slice A (sortI (B.abs.fs.map (·.1))).length c ∧ OwnS 2 1 A (sortI (B.abs.fs.map (·.1))).length c (longs (sortI (B.abs.fs.map (·.1)))) L ∧ Mem F w' (L :: bkB g m B)) := by
  have hnames : B.abs.fs.map (·.1) = B.fs.map (·.s) := by
    show (B.fs.map Se.abs).map _ = _
    rw [List.map_map]
    rfl
  rw [hnames]
  refine Calls.of_vc Try.func16 rfl Try.ntmps16 rfl ?_
  repeat (first | refine VC.seq ?_ | refine VC.block ?_ | refine VC.skip ?_)
  refine VC.region ?_
  refine VR.pure rfl rfl (p_assignL rfl) ?_
  refine VR.nil ?_
  repeat (first | refine VC.seq ?_ | refine VC.block ?_ | refine VC.skip ?_)
  refine VC.region ?_
  refine VR.pure rfl rfl (p_moveP rfl) ?_
  refine VR.pure rfl rfl (p_eqNilP Try.underlying24 rfl) ?_
  refine VR.nil ?_
  repeat (first | refine VC.seq ?_ | refine VC.block ?_ | refine VC.skip ?_)
  refine VC.condF rfl rfl ?_
  obtain ⟨K, huK, hm1, hKl, hback⟩ := Mem.aside hm
  have hbg : K.heap g = some (B.obj m) := hKl _ (.head _) _ (.head _)
  have hbm : K.heap m = some B.map := hKl _ (.tail _ (.head _)) _ (.head _)
  clear hKl hm
  repeat (first | refine VC.seq ?_ | refine VC.block ?_ | refine VC.skip ?_)
  refine VC.region ?_
  refine VR.pure rfl rfl (p_assignL rfl) ?_
  refine VR.nil ?_
  repeat (first | refine VC.seq ?_ | refine VC.block ?_ | refine VC.skip ?_)
  refine VC.region ?_
  refine VR.pure rfl rfl (p_moveP rfl) ?_
  refine VR.pure rfl rfl (p_nilCheck rfl) ?_
  refine VR.pure rfl rfl (p_field (fo := 1) Try.underlying48 rfl Try.sizeOf46 rfl rfl rfl) ?_
  refine VR.val rfl rfl (r_load (v := .map _) Try.isAgg46 rfl (hm1.fix _ _ hbg) rfl) ?_
  refine VR.rangeMap Try.underlying46 rfl rfl rfl hm1 (hm1.fix _ _ hbm) ?_
  intro r w hm1
  refine VR.nil ?_
  repeat (first | refine VC.seq ?_ | refine VC.block ?_ | refine VC.skip ?_)
  refine VC.loop (σ := Array Nat × Option Addr × Nat × List Int × Blks) (fun s => [(3, .slice s.2.1 s.2.2.2.1.length s.2.2.1), (11, .pointer (some ⟨r, 0, none⟩))])
    (fun s w => Mem K w ([(r, .mapIter (some m) B.clock s.1 B.clock)] :: s.2.2.2.2 :: []) ∧ OwnS 2 1 s.2.1 s.2.2.2.1.length s.2.2.1 (longs s.2.2.2.1) s.2.2.2.2 ∧ s.2.2.2.1.Perm ((seenSe B.fs s.1).map (·.s)))
    (fun s => unseen (B.ents.map (·.born)) s.1) (#[], none, 0, [], []) ⟨rfl, rfl, trivial⟩ ⟨hm1.nil_.swap, OwnS.nil _ _, by
      rw [show seenSe B.fs #[] = [] from List.filter_eq_nil_iff.2 (by simp)]
      exact List.Perm.refl _⟩ ?_
  clear hm1
  rintro ⟨seen, A, c, ns, L⟩ A' w ⟨hm1, ho, hperm⟩
  dsimp only at hm1 ho hperm ⊢
  have hle : ns.length ≤ B.fs.length := by
    rw [hperm.length_eq, List.length_map]
    exact List.length_filter_le _ _
  by_cases hall : ∀ x ∈ B.ents, x.born ∈ seen.toList
  · repeat (first | refine VC.seq ?_ | refine VC.block ?_ | refine VC.skip ?_)
    refine VC.region ?_
    refine VR.nextEnd rfl rfl rfl hm1 0 0 rfl (hm1.fix _ _ hbm) hB.ents.born (Nat.le_refl _) hall ?_
    refine VR.pure rfl rfl (p_extract rfl rfl) ?_
    refine VR.nil ?_
    repeat (first | refine VC.seq ?_ | refine VC.block ?_ | refine VC.skip ?_)
    refine VC.condF rfl rfl ?_
    repeat (first | refine VC.seq ?_ | refine VC.block ?_ | refine VC.skip ?_)
    refine VC.exit ?_
    have hse : seenSe B.fs seen = B.fs := List.filter_eq_self.2 fun f hf => decide_eq_true (hall f.ent (List.mem_map.2 ⟨f, hf, rfl⟩))
    rw [hse] at hperm
    repeat (first | refine VC.seq ?_ | refine VC.block ?_ | refine VC.skip ?_)
    refine VC.region ?_
    refine VR.pure rfl rfl (p_moveL rfl) ?_
    replace hm1 := hm1.swap
    refine VR.call rfl rfl (r_call1 Try.call24 rfl) (sort_c hm1 ho (by omega)) ?_
    rintro v1 w ⟨L', ho', hm1⟩
    refine VR.nil ?_
    repeat (first | refine VC.seq ?_ | refine VC.block ?_ | refine VC.skip ?_)
    refine VC.region ?_
    refine VR.pure rfl rfl (p_moveL rfl) ?_
    refine VR.pure rfl rfl (p_assignL rfl) ?_
    refine VR.nil ?_
    repeat (first | refine VC.seq ?_ | refine VC.block ?_ | refine VC.skip ?_)
    refine VC.ret ⟨_, ResOf.r1 (v := .slice _ _ _) rfl rfl, ?_⟩
    rw [← sortI_perm hperm, sortI_length ns]
    exact ⟨A, c, L', rfl, ho', hback (As := [L']) hm1.pop2⟩
  · repeat (first | refine VC.seq ?_ | refine VC.block ?_ | refine VC.skip ?_)
    refine VC.region ?_
    refine VR.nextElem rfl rfl rfl hm1 0 0 rfl (hm1.fix _ _ hbm) hB.ents.born (Nat.le_refl _) hall ?_
    intro e he hn w hm1
    refine VR.pure rfl rfl (p_extract rfl rfl) ?_
    refine VR.nil ?_
    repeat (first | refine VC.seq ?_ | refine VC.block ?_ | refine VC.skip ?_)
    refine VC.condT rfl rfl ?_
    obtain ⟨f, hfm, rfl⟩ := List.mem_map.1 he
    obtain ⟨i, hi', hfi⟩ := List.mem_iff_getElem.1 hfm
    have hi : B.fs[i]? = some f := by rw [List.getElem?_eq_getElem hi', hfi]
    repeat (first | refine VC.seq ?_ | refine VC.block ?_ | refine VC.skip ?_)
    refine VC.region ?_
    refine VR.val rfl rfl (r_entry rfl (hm1.at_ 0 0 rfl) (hm1.fix _ _ hbm) he hB.ents.nodup) ?_
    refine VR.pure rfl rfl (p_extract rfl rfl) ?_
    refine VR.pure rfl rfl (p_assignI rfl) ?_
    refine VR.nil ?_
    simp only [mset, bset] at hm1
    repeat (first | refine VC.seq ?_ | refine VC.block ?_ | refine VC.skip ?_)
    refine VC.region ?_
    refine VR.pure rfl rfl (p_moveL rfl) ?_
    refine VR.pure rfl rfl (p_moveI rfl) ?_
    refine VR.new hm1 rfl rfl (n_buildSlice1 (vs := [.int _ _]) Try.underlying33 inf2 rfl rfl rfl rfl rfl rfl rfl) ?_
    intro b18 w hm1
    replace hm1 := hm1.pull 2 rfl
    refine VR.append (s := 1) (bytes := 8) Try.underlying33 inf2 rfl rfl rfl rfl rfl rfl rfl rfl rfl hm1 ho (Row.lit (cs := [.int .i64 f.s]) (hm1.at_ 1 0 rfl)) (longs_one [f.s]) rfl ⟨by unfold maxLen; omega, by omega⟩ ?_
    intro A3 c3 w L3 ho3 hm1
    refine VR.pure rfl rfl (p_assignL rfl) ?_
    refine VR.nil ?_
    repeat (first | refine VC.seq ?_ | refine VC.block ?_ | refine VC.skip ?_)
    have ho4 : OwnS 2 1 A3 (ns ++ [f.s]).length c3 (longs (ns ++ [f.s])) L3 := by
      unfold longs
      rw [List.map_append, List.length_append]
      exact ho3
    refine ⟨(seen.push f.ent.born, A3, c3, ns ++ [f.s], L3), ⟨by rw [List.length_append]; rfl, rfl, trivial⟩, ⟨hm1.pop2.swap, ho4, ?_⟩, unseen_lt (List.mem_map.2 ⟨f.ent, he, rfl⟩) hn⟩
    have h3 := (seen_push hi hB.borns hn).map (·.s)
    refine List.Perm.trans ?_ h3.symm
    exact (hperm.append_right _).trans List.perm_append_comm

theorem filter_step {l : List Se} {p q r : Se → Bool} (h : ∀ x ∈ l, r x = (p x && q x)) : l.filter r = (l.filter p).filter q := by
  rw [List.filter_filter]
  apply List.filter_congr
  intro x hx
  rw [h x hx, Bool.and_comm]
theorem erase_filter : ∀ {fs : List Se} {i : Nat} {f : Se}, fs.Pairwise (fun x y => x.s ≠ y.s) → fs[i]? = some f → fs.filter (fun x => decide (x.s ≠ f.s)) = fs.eraseIdx i
  | [], _, _, _, h => by simp at h
  | x :: r, 0, f, hp, h => by
    obtain rfl := Option.some.inj (show some x = some f from h)
    obtain ⟨h1, h2⟩ := List.pairwise_cons.1 hp
    rw [List.filter_cons_of_neg (by simp)]
    exact List.filter_eq_self.2 fun f hf => decide_eq_true (h1 f hf).symm
  | x :: r, i + 1, f, hp, h => by
    obtain ⟨h1, h2⟩ := List.pairwise_cons.1 hp
    have hf : f ∈ r := List.mem_of_getElem? (show r[i]? = some f from h)
    rw [List.filter_cons_of_pos (by simpa using h1 f hf)]
    exact congrArg _ (erase_filter (i := i) h2 h)
theorem BkOk.sApart {B : Bk} (h : BkOk B) : B.fs.Pairwise fun x y => x.s ≠ y.s := by
  have h1 := h.ents.apart
  rw [List.pairwise_map] at h1
  exact h1.imp fun hne e => hne (congrArg (Value.int .i64) e)

set_option maxHeartbeats 4000000 in
theorem tick_c {F : Env} {w : World} {g m : Nat} {B : Bk} {t : Int} (hm : Mem F w (bkB g m B)) (hB : BkOk B) (hlen : B.fs.length ≤ 1000000) :
    Calls Try.prog 14 #[.pointer (some ⟨g, 0, none⟩), .int .i64 t] w (Ret fun v w' => ∃ A c L B', v = .slice A (sortI (goneB B.abs t)).length c ∧ OwnS 2 1 A (sortI (goneB B.abs t)).length c (longs (sortI (goneB B.abs t))) L ∧ B'.abs = tickB B.abs t ∧ BkOk B' ∧ Mem F w' (L :: bkB g m B')) := by
  have hnow := hB.now
  refine Calls.of_vc Try.func14 rfl Try.ntmps14 rfl ?_
  repeat (first | refine VC.seq ?_ | refine VC.block ?_ | refine VC.skip ?_)
  refine VC.region ?_
  refine VR.pure rfl rfl (p_assignL rfl) ?_
  refine VR.nil ?_
  repeat (first | refine VC.seq ?_ | refine VC.block ?_ | refine VC.skip ?_)
  refine VC.region ?_
  refine VR.pure rfl rfl (p_moveP rfl) ?_
  refine VR.pure rfl rfl (p_eqNilP Try.underlying24 rfl) ?_
  refine VR.nil ?_
  repeat (first | refine VC.seq ?_ | refine VC.block ?_ | refine VC.skip ?_)
  refine VC.condF rfl rfl ?_
  unfold bkB at hm
  repeat (first | refine VC.seq ?_ | refine VC.block ?_ | refine VC.skip ?_)
  refine VC.region ?_
  refine VR.pure rfl rfl (p_moveI rfl) ?_
  refine VR.pure rfl rfl (p_le rfl rfl) ?_
  refine VR.nil ?_
  repeat (first | refine VC.seq ?_ | refine VC.block ?_ | refine VC.skip ?_)
  refine VC.meet (σ := Unit) (fun _ => [(0, .pointer (some ⟨g, 0, none⟩))]) (fun _ w => Mem F w (bkB g m ⟨nowOf B.now t, B.clock, B.fs⟩)) ?_ ?_
  · repeat (first | refine VC.seq ?_ | refine VC.block ?_ | refine VC.skip ?_)
    refine VC.condD rfl (fun h3 => ?_) (fun h3 => ?_)
    · repeat (first | refine VC.seq ?_ | refine VC.block ?_ | refine VC.skip ?_)
      refine VC.region ?_
      refine VR.pure rfl rfl (p_moveP rfl) ?_
      refine VR.pure rfl rfl (p_moveP rfl) ?_
      refine VR.pure rfl rfl (p_nilCheck rfl) ?_
      refine VR.pure rfl rfl (p_field (fo := 0) Try.underlying48 rfl Try.sizeOf2 rfl rfl rfl) ?_
      refine VR.val rfl rfl (r_load (v := .int _ _) Try.isAgg2 rfl (hm.at_ 0 0 rfl) rfl) ?_
      refine VR.pure rfl rfl (p_moveI rfl) ?_
      refine VR.pure rfl rfl (p_max rfl rfl) ?_
      refine VR.pure rfl rfl (p_nilCheck rfl) ?_
      refine VR.pure rfl rfl (p_field (fo := 0) Try.underlying48 rfl Try.sizeOf2 rfl rfl rfl) ?_
      refine VR.store (cs' := #[.int .i64 (max B.now t), .map (some m)]) (v := .int _ _) Try.sizeOf2 rfl rfl rfl rfl rfl hm 0 0 rfl (Nat.ble_eq.mp rfl) rfl ?_
      intro w hm
      refine VR.nil ?_
      refine ⟨(), ⟨rfl, trivial⟩, ?_⟩
      unfold nowOf
      rw [if_pos h3]
      exact hm
    · repeat (first | refine VC.seq ?_ | refine VC.block ?_ | refine VC.skip ?_)
      refine ⟨(), ⟨rfl, trivial⟩, ?_⟩
      unfold nowOf
      rw [if_neg h3]
      exact hm
  clear hm
  rintro _ A1 w hm
  have hB1 : BkOk ⟨nowOf B.now t, B.clock, B.fs⟩ := ⟨hB.ents, by show 0 ≤ nowOf B.now t ∧ nowOf B.now t ≤ _; unfold nowOf; split <;> omega, hB.each⟩
  generalize hnw : nowOf B.now t = nw at hm hB1
  unfold bkB at hm
  repeat (first | refine VC.seq ?_ | refine VC.block ?_ | refine VC.skip ?_)
  refine VC.region ?_
  refine VR.pure rfl rfl (p_assignL rfl) ?_
  refine VR.nil ?_
  repeat (first | refine VC.seq ?_ | refine VC.block ?_ | refine VC.skip ?_)
  refine VC.region ?_
  refine VR.pure rfl rfl (p_moveP rfl) ?_
  refine VR.pure rfl rfl (p_nilCheck rfl) ?_
  refine VR.pure rfl rfl (p_field (fo := 1) Try.underlying48 rfl Try.sizeOf46 rfl rfl rfl) ?_
  refine VR.val rfl rfl (r_load (v := .map _) Try.isAgg46 rfl (hm.at_ 0 0 rfl) rfl) ?_
  refine VR.rangeMap Try.underlying46 rfl rfl rfl hm (hm.at_ 1 0 rfl) ?_
  intro r w hm
  refine VR.nil ?_
  repeat (first | refine VC.seq ?_ | refine VC.block ?_ | refine VC.skip ?_)
  refine VC.loop (σ := Array Nat × Option Addr × Nat × List Int × Blks) (fun s => [(0, .pointer (some ⟨g, 0, none⟩)), (5, .slice s.2.1 s.2.2.2.1.length s.2.2.1), (27, .pointer (some ⟨r, 0, none⟩))])
    (fun s w => Mem F w ([(r, .mapIter (some m) B.clock s.1 B.clock)] :: s.2.2.2.2 :: [(g, .cells #[.int .i64 nw, .map (some m)] 48 (0, 0))] :: [(m, .map B.ents.toArray B.clock)] :: []) ∧ OwnS 2 1 s.2.1 s.2.2.2.1.length s.2.2.1 (longs s.2.2.2.1) s.2.2.2.2
      ∧ s.2.2.2.1.Perm (((seenSe B.fs s.1).filter fun x => decide (x.e ≤ nw)).map (·.s)))
    (fun s => unseen (B.ents.map (·.born)) s.1) (#[], none, 0, [], []) ⟨rfl, rfl, rfl, trivial⟩ ⟨hm.nil_.swap, OwnS.nil _ _, by
      rw [show seenSe B.fs #[] = [] from List.filter_eq_nil_iff.2 (by simp)]
      exact List.Perm.refl _⟩ ?_
  clear hm
  rintro ⟨seen, A, c, ns, L⟩ A' w ⟨hm, ho, hperm⟩
  dsimp only at hm ho hperm ⊢
  have hle : ns.length ≤ B.fs.length := by
    rw [hperm.length_eq, List.length_map]
    exact Nat.le_trans (List.length_filter_le _ _) (List.length_filter_le _ _)
  by_cases hall : ∀ x ∈ B.ents, x.born ∈ seen.toList
  · repeat (first | refine VC.seq ?_ | refine VC.block ?_ | refine VC.skip ?_)
    refine VC.region ?_
    refine VR.nextEnd rfl rfl rfl hm 0 0 rfl (hm.at_ 3 0 rfl) hB.ents.born (Nat.le_refl _) hall ?_
    refine VR.pure rfl rfl (p_extract rfl rfl) ?_
    refine VR.nil ?_
    repeat (first | refine VC.seq ?_ | refine VC.block ?_ | refine VC.skip ?_)
    refine VC.condF rfl rfl ?_
    repeat (first | refine VC.seq ?_ | refine VC.block ?_ | refine VC.skip ?_)
    refine VC.exit ?_
    have hse : seenSe B.fs seen = B.fs := List.filter_eq_self.2 fun f hf => decide_eq_true (hall f.ent (List.mem_map.2 ⟨f, hf, rfl⟩))
    rw [hse] at hperm
    replace hm := hm.pop
    have hsa := hB.sApart
    have hnd : ns.Nodup := by
      have h1 : (B.fs.map (·.s)).Nodup := List.pairwise_map.2 hsa
      exact hperm.nodup_iff.2 (h1.sublist (List.filter_sublist.map _))
    have hmem : ∀ x ∈ B.fs, (x.s ∈ ns ↔ x.e ≤ nw) := fun x hx => by
      constructor
      · intro h
        obtain ⟨y, hy, hys⟩ := List.mem_map.1 (hperm.subset h)
        obtain ⟨hy1, hy2⟩ := List.mem_filter.1 hy
        obtain ⟨i, hi, e1⟩ := List.mem_iff_getElem.1 hx
        obtain ⟨j, hj, e2⟩ := List.mem_iff_getElem.1 hy1
        have hij := hB.ents.at_eq (i := i) (j := j) (x := x.ent) (y := y.ent) (by rw [List.getElem?_map, List.getElem?_eq_getElem hi, e1]; rfl) (by rw [List.getElem?_map, List.getElem?_eq_getElem hj, e2]; rfl) (congrArg (Value.int .i64) hys.symm)
        subst hij
        have : x = y := by rw [← e1, ← e2]
        rw [this]
        exact of_decide_eq_true hy2
      · intro h
        exact hperm.symm.subset (List.mem_map.2 ⟨x, List.mem_filter.2 ⟨hx, decide_eq_true h⟩, rfl⟩)
    repeat (first | refine VC.seq ?_ | refine VC.block ?_ | refine VC.skip ?_)
    refine VC.region ?_
    refine VR.pure rfl rfl (p_moveL rfl) ?_
    refine VR.pure rfl rfl (p_len Try.underlying33 rfl) ?_
    refine VR.pure rfl rfl (p_moveI rfl) ?_
    refine VR.nil ?_
    repeat (first | refine VC.seq ?_ | refine VC.block ?_ | refine VC.skip ?_)
    refine VC.loop (σ := Nat) (fun k => [(0, .pointer (some ⟨g, 0, none⟩)), (5, .slice A ns.length c), (44, .slice A ns.length c), (45, .int .i64 ns.length), (46, .int .i64 k)])
      (fun k w => Mem F w (L :: [(g, .cells #[.int .i64 nw, .map (some m)] 48 (0, 0))] :: [(m, .map ((B.fs.filter fun x => decide (x.s ∉ ns.take k)).map Se.ent).toArray B.clock)] :: []) ∧ k ≤ ns.length) (fun k => ns.length - k) 0 ⟨rfl, rfl, rfl, rfl, rfl, trivial⟩ ⟨by
        rw [show (B.fs.filter fun x => decide (x.s ∉ ns.take 0)) = B.fs from List.filter_eq_self.2 (by simp)]
        exact hm, by omega⟩ ?_
    clear hm
    rintro k A2 w ⟨hm, hk⟩
    repeat (first | refine VC.seq ?_ | refine VC.block ?_ | refine VC.skip ?_)
    refine VC.region ?_
    refine VR.pure rfl rfl (p_lt rfl rfl) ?_
    refine VR.nil ?_
    repeat (first | refine VC.seq ?_ | refine VC.block ?_ | refine VC.skip ?_)
    refine VC.condD rfl (fun hlt => ?_) (fun hlt => ?_)
    · have hk' : k < ns.length := by omega
      rcases ho.2 with ⟨_, h0, _⟩ | ⟨gl, cur, rfl, rfl, h1, h2, h3, h4⟩
      · omega
      · have hcell : cur[0 + k]? = some (.int .i64 ns[k]) := by
          have h5 : (cur.toList.take (ns.length * 1))[k]? = (longs ns)[k]? := by rw [h4]
          rw [List.getElem?_take, if_pos (by omega), List.getElem?_map, List.getElem?_eq_getElem hk', Array.getElem?_toList] at h5
          rw [Nat.zero_add, h5]
          rfl
        have hsub : (B.fs.filter fun x => decide (x.s ∉ ns.take k)).Sublist B.fs := List.filter_sublist
        have hE := hB.ents.sub (hsub.map Se.ent)
        obtain ⟨y, hy, hys⟩ := List.mem_map.1 (hperm.subset (List.getElem_mem hk'))
        have hy1 := (List.mem_filter.1 hy).1
        have hyn : y.s ∉ ns.take k := fun h => by
          rw [hys] at h
          obtain ⟨j, hj, e⟩ := List.mem_iff_getElem.1 h
          rw [List.length_take] at hj
          rw [List.getElem_take] at e
          have := (List.getElem_inj hnd).1 e
          omega
        obtain ⟨i, hi', hyi⟩ := List.mem_iff_getElem.1 (List.mem_filter.2 ⟨hy1, decide_eq_true hyn⟩ : y ∈ B.fs.filter fun x => decide (x.s ∉ ns.take k))
        have hi : (B.fs.filter fun x => decide (x.s ∉ ns.take k))[i]? = some y := by rw [List.getElem?_eq_getElem hi', hyi]
        have hie : ((B.fs.filter fun x => decide (x.s ∉ ns.take k)).map Se.ent)[i]? = some y.ent := by rw [List.getElem?_map, hi]; rfl
        repeat (first | refine VC.seq ?_ | refine VC.block ?_ | refine VC.skip ?_)
        refine VC.region ?_
        refine VR.pure rfl rfl (p_idx1 Try.underlying33 Try.sizeOf2 rfl rfl hk') ?_
        refine VR.val rfl rfl (r_load (v := .int _ _) Try.isAgg2 rfl (hm.at_ 0 0 rfl) hcell) ?_
        refine VR.pure rfl rfl (p_assignI rfl) ?_
        refine VR.nil ?_
        repeat (first | refine VC.seq ?_ | refine VC.block ?_ | refine VC.skip ?_)
        refine VC.region ?_
        refine VR.pure rfl rfl (p_moveP rfl) ?_
        refine VR.pure rfl rfl (p_nilCheck rfl) ?_
        refine VR.pure rfl rfl (p_field (fo := 1) Try.underlying48 rfl Try.sizeOf46 rfl rfl rfl) ?_
        refine VR.val rfl rfl (r_load (v := .map _) Try.isAgg46 rfl (hm.at_ 1 0 rfl) rfl) ?_
        refine VR.pure rfl rfl (p_moveI rfl) ?_
        refine VR.deleteHit (u := .int _ _) Try.underlying46 Try.underlying2 rfl rfl rfl rfl hm 2 0 rfl hE hie (congrArg (Value.int .i64) hys) ?_
        intro w hm
        refine VR.nil ?_
        repeat (first | refine VC.seq ?_ | refine VC.block ?_ | refine VC.skip ?_)
        refine VC.region ?_
        refine VR.pure rfl rfl (p_add64 rfl rfl (by omega)) ?_
        refine VR.pure rfl rfl (p_moveI rfl) ?_
        refine VR.nil ?_
        simp only [mset, bset] at hm
        refine ⟨k + 1, ⟨rfl, rfl, rfl, rfl, rfl, trivial⟩, ⟨?_, by omega⟩, by omega⟩
        have htk : ns.take (k + 1) = ns.take k ++ [ns[k]] := by rw [List.take_add_one, List.getElem?_eq_getElem hk']; rfl
        have hfs : (B.fs.filter fun x => decide (x.s ∉ ns.take (k + 1))) = (B.fs.filter fun x => decide (x.s ∉ ns.take k)).eraseIdx i := by
          rw [← erase_filter (hsa.sublist hsub) hi]
          refine filter_step fun x _ => ?_
          rw [htk, hys, ← Bool.decide_and]
          exact decide_eq_decide.2 (by rw [List.mem_append, List.mem_singleton, not_or])
        rw [hfs, map_erase]
        exact hm
    · repeat (first | refine VC.seq ?_ | refine VC.block ?_ | refine VC.skip ?_)
      refine VC.exit ?_
      have hkn : k = ns.length := by omega
      rw [hkn, List.take_length] at hm
      repeat (first | refine VC.seq ?_ | refine VC.block ?_ | refine VC.skip ?_)
      refine VC.region ?_
      refine VR.pure rfl rfl (p_moveL rfl) ?_
      refine VR.call rfl rfl (r_call1 Try.call24 rfl) (sort_c hm ho (by omega)) ?_
      rintro v1 w ⟨L', ho', hm⟩
      refine VR.nil ?_
      repeat (first | refine VC.seq ?_ | refine VC.block ?_ | refine VC.skip ?_)
      refine VC.region ?_
      refine VR.pure rfl rfl (p_moveL rfl) ?_
      refine VR.pure rfl rfl (p_assignL rfl) ?_
      refine VR.nil ?_
      repeat (first | refine VC.seq ?_ | refine VC.block ?_ | refine VC.skip ?_)
      refine VC.ret ⟨_, ResOf.r1 (v := .slice _ _ _) rfl rfl, ?_⟩
      have hgone : goneB B.abs t = (B.fs.filter fun x => decide (x.e ≤ nw)).map (·.s) := by
        unfold goneB
        show ((B.fs.map Se.abs).filter fun f => decide (f.2.2 ≤ nowOf B.now t)).map (·.1) = _
        rw [hnw, List.filter_map, List.map_map]
        rfl
      rw [hgone, ← sortI_perm hperm, sortI_length ns]
      have hfs : (B.fs.filter fun x => decide (x.s ∉ ns)) = B.fs.filter fun x => decide (¬ x.e ≤ nw) := List.filter_congr fun x hx => decide_eq_decide.2 (not_congr (hmem x hx))
      rw [hfs] at hm
      refine ⟨A, c, L', ⟨nw, B.clock, B.fs.filter fun x => decide (¬ x.e ≤ nw)⟩, rfl, ho', ?_, ⟨hB.ents.sub (List.filter_sublist.map Se.ent), hB1.now, fun x hx => hB.each x (List.mem_filter.1 hx).1⟩, hm⟩
      show Ba.mk nw ((B.fs.filter _).map Se.abs) = tickB B.abs t
      unfold tickB
      show _ = Ba.mk (nowOf B.now t) ((B.fs.map Se.abs).filter fun f => decide (¬ f.2.2 ≤ nowOf B.now t))
      rw [hnw, List.filter_map]
      rfl
  · repeat (first | refine VC.seq ?_ | refine VC.block ?_ | refine VC.skip ?_)
    refine VC.region ?_
    refine VR.nextElem rfl rfl rfl hm 0 0 rfl (hm.at_ 3 0 rfl) hB.ents.born (Nat.le_refl _) hall ?_
    intro e he hn w hm
    refine VR.pure rfl rfl (p_extract rfl rfl) ?_
    refine VR.nil ?_
    repeat (first | refine VC.seq ?_ | refine VC.block ?_ | refine VC.skip ?_)
    refine VC.condT rfl rfl ?_
    obtain ⟨f, hfm, rfl⟩ := List.mem_map.1 he
    obtain ⟨i, hi', hfi⟩ := List.mem_iff_getElem.1 hfm
    have hi : B.fs[i]? = some f := by rw [List.getElem?_eq_getElem hi', hfi]
    repeat (first | refine VC.seq ?_ | refine VC.block ?_ | refine VC.skip ?_)
    refine VC.region ?_
    refine VR.val rfl rfl (r_entry rfl (hm.at_ 0 0 rfl) (hm.at_ 3 0 rfl) he hB.ents.nodup) ?_
    refine VR.pure rfl rfl (p_extract rfl rfl) ?_
    refine VR.pure rfl rfl (p_extract rfl rfl) ?_
    refine VR.new hm rfl rfl (n_allocG Try.zeroValue51) ?_
    intro b7 w hm
    refine VR.pure rfl rfl (p_assignI rfl) ?_
    refine VR.store (cs' := #[.int .i64 f.t, .int .i64 f.e]) (v := .agg _) Try.sizeOf51 rfl rfl rfl rfl rfl hm 0 0 rfl (Nat.ble_eq.mp rfl) rfl ?_
    intro w hm
    refine VR.nil ?_
    simp only [mset, bset] at hm
    repeat (first | refine VC.seq ?_ | refine VC.block ?_ | refine VC.skip ?_)
    refine VC.loud (Kept F ([(b7, .cells #[.int .i64 f.t, .int .i64 f.e] 51 (0, 0))] :: [(r, .mapIter (some m) B.clock (seen.push f.ent.born) B.clock)] :: L :: [(g, .cells #[.int .i64 nw, .map (some m)] 48 (0, 0))] :: [(m, .map B.ents.toArray B.clock)] :: [])) [] rfl (by kernel_rfl) (Kept.here0 hm.drew) ?_
    replace hm := hm.drew
    refine VL.pure rfl rfl rfl (p_field (fo := 1) Try.underlying51 rfl Try.sizeOf2 rfl rfl rfl) ?_
    refine VL.read rfl rfl rfl (fun w' hw' => r_load (v := .int _ _) Try.isAgg2 rfl (hw'.at_ 0 0 rfl) rfl) ?_
    refine VL.pure rfl rfl rfl (p_moveP rfl) ?_
    refine VL.pure rfl rfl rfl (p_nilCheck rfl) ?_
    refine VL.pure rfl rfl rfl (p_field (fo := 0) Try.underlying48 rfl Try.sizeOf2 rfl rfl rfl) ?_
    refine VL.read rfl rfl rfl (fun w' hw' => r_load (v := .int _ _) Try.isAgg2 rfl (hw'.at_ 3 0 rfl) rfl) ?_
    refine VL.pure rfl rfl rfl (p_le rfl rfl) ?_
    refine VL.nil ?_
    have h3 := (seen_push hi hB.borns hn).filter fun x => decide (x.e ≤ nw)
    repeat (first | refine VC.seq ?_ | refine VC.block ?_ | refine VC.skip ?_)
    refine VC.condD rfl (fun h9 => ?_) (fun h9 => ?_)
    · repeat (first | refine VC.seq ?_ | refine VC.block ?_ | refine VC.skip ?_)
      refine VC.region ?_
      refine VR.pure rfl rfl (p_moveL rfl) ?_
      refine VR.pure rfl rfl (p_moveI rfl) ?_
      refine VR.new hm rfl rfl (n_buildSlice1 (vs := [.int _ _]) Try.underlying33 inf2 rfl rfl rfl rfl rfl rfl rfl) ?_
      intro b42 w hm
      replace hm := hm.pull 3 rfl
      refine VR.append (s := 1) (bytes := 8) Try.underlying33 inf2 rfl rfl rfl rfl rfl rfl rfl rfl rfl hm ho (Row.lit (cs := [.int .i64 f.s]) (hm.at_ 1 0 rfl)) (longs_one [f.s]) rfl ⟨by unfold maxLen; omega, by omega⟩ ?_
      intro A3 c3 w L3 ho3 hm
      refine VR.pure rfl rfl (p_assignL rfl) ?_
      refine VR.nil ?_
      repeat (first | refine VC.seq ?_ | refine VC.block ?_ | refine VC.skip ?_)
      have ho4 : OwnS 2 1 A3 (ns ++ [f.s]).length c3 (longs (ns ++ [f.s])) L3 := by
        unfold longs
        rw [List.map_append, List.length_append]
        exact ho3
      refine ⟨(seen.push f.ent.born, A3, c3, ns ++ [f.s], L3), ⟨rfl, by rw [List.length_append]; rfl, rfl, trivial⟩, ⟨hm.pop2.pop2.swap, ho4, ?_⟩, unseen_lt (List.mem_map.2 ⟨f.ent, he, rfl⟩) hn⟩
      have e1 : (f :: seenSe B.fs seen).filter (fun x => decide (x.e ≤ nw)) = f :: (seenSe B.fs seen).filter (fun x => decide (x.e ≤ nw)) := List.filter_cons_of_pos (by simpa using h9)
      rw [e1] at h3
      refine List.Perm.trans ?_ (h3.map (·.s)).symm
      exact (hperm.append_right _).trans List.perm_append_comm
    · repeat (first | refine VC.seq ?_ | refine VC.block ?_ | refine VC.skip ?_)
      refine ⟨(seen.push f.ent.born, A, c, ns, L), ⟨rfl, rfl, rfl, trivial⟩, ⟨hm.pop, ho, ?_⟩, unseen_lt (List.mem_map.2 ⟨f.ent, he, rfl⟩) hn⟩
      have e1 : (f :: seenSe B.fs seen).filter (fun x => decide (x.e ≤ nw)) = (seenSe B.fs seen).filter (fun x => decide (x.e ≤ nw)) := List.filter_cons_of_neg (by simpa using h9)
      rw [e1] at h3
      exact hperm.trans (h3.map (·.s)).symm
end Go.Bd
