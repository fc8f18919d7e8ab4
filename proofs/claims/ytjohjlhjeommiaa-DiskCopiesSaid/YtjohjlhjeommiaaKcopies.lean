/- DiskCopies: a copy goes on by itself: crashed at once it has what the first one had, and neither knows of what is done to the other behind that. Conditions: none. -/
import Derived.Test.Ytjohjlhjeommiaa08v
namespace Go.Bd
open Go.Proofs Go.ChangeShapes Go.WideShapes
set_option linter.unusedVariables false
set_option maxRecDepth 20000

theorem int_top {x : Int} (h : (Lit.int .i64 x).wf = true) : x ≤ 9223372036854775807 := by
  unfold Lit.wf at h
  rw [Bool.and_eq_true] at h
  exact of_decide_eq_true h.2
theorem sm_new {D : Dk} {room : Int} (h : D.abs = ⟨room, []⟩) : Sm D.abs room [] := by
  rw [h]
  exact ⟨rfl, List.Perm.refl _, List.Pairwise.nil⟩
section
variable {F G : Env} {w : World} {X Y Ls : List Blks} {g m gr e me er : Nat} {room : Int} {k k2 : Nat}
/-- A disk and the document's one in some blocks. -/
def Pair (F : Env) (X : List Blks) (g m gr : Nat) (room : Int) (k : Nat) : Prop :=
  ∃ D rs A c L, DkOk D ∧ Sm D.abs room rs ∧ D.fs.length ≤ k ∧ OwnR rs A c L ∧ (∀ x ∈ rs, RfOk F.heap x) ∧ X = dkB g m D ++ ([(gr, rdisk room rs A c)] :: L :: [])
theorem Pair.mono (h : Pair F X g m gr room k) (hu : F.under G) : Pair G X g m gr room k := by
  obtain ⟨D, rs, A, c, L, h1, h2, h3, h4, h5, h6⟩ := h
  exact ⟨D, rs, A, c, L, h1, h2, h3, h4, oks h5 hu.heap, h6⟩
theorem Pair.both (h : Pair F X g m gr room k) (hm : Mem F w (X ++ Ls)) : Both F w g m gr room k Ls := by
  obtain ⟨D, rs, A, c, L, h1, h2, h3, h4, h5, rfl⟩ := h
  refine ⟨D, rs, A, c, L, h1, h2, h3, h4, h5, ?_⟩
  rw [List.append_assoc] at hm
  exact hm
theorem Both.pair (h : Both F w g m gr room k Ls) : ∃ X, Pair F X g m gr room k ∧ Mem F w (X ++ Ls) := by
  obtain ⟨D, rs, A, c, L, h1, h2, h3, h4, h5, hm⟩ := h
  refine ⟨_, ⟨D, rs, A, c, L, h1, h2, h3, h4, h5, rfl⟩, ?_⟩
  rw [List.append_assoc]
  exact hm
/-- Two such pairs, each by itself. -/
def Four (F : Env) (w : World) (g m gr e me er : Nat) (room : Int) (k k2 : Nat) : Prop := ∃ X Y, Pair F X g m gr room k ∧ Pair F Y e me er room k2 ∧ Mem F w (X ++ Y)
theorem Four.swap (h : Four F w g m gr e me er room k k2) : Four F w e me er g m gr room k2 k := by
  obtain ⟨X, Y, h1, h2, hm⟩ := h
  exact ⟨Y, X, h2, h1, hm.permF (by rw [List.flatten_append, List.flatten_append]; exact List.perm_append_comm)⟩
theorem four_perm (P Q E D : List Blks) : (P ++ (Q ++ (E ++ D))).flatten.Perm ((D ++ Q) ++ (E ++ P)).flatten := by
  have h1 : (P ++ (Q ++ (E ++ D))).Perm ((D ++ Q) ++ (E ++ P)) := by
    have h2 : (P ++ (Q ++ (E ++ D))).Perm ((Q ++ (E ++ D)) ++ P) := List.perm_append_comm
    have h3 : (E ++ D).Perm (D ++ E) := List.perm_append_comm
    have h4 : (Q ++ (E ++ D)).Perm (Q ++ (D ++ E)) := h3.append_left Q
    have h5 : (Q ++ (D ++ E)).Perm ((D ++ Q) ++ E) := by
      rw [← List.append_assoc]
      exact (List.perm_append_comm (l₁ := Q) (l₂ := D)).append_right E
    have h6 := (h4.trans h5).append_right P
    exact h2.trans (h6.trans (List.Perm.of_eq (List.append_assoc (D ++ Q) E P)))
  exact h1.flatten
theorem back2 (x l : Blks) (A : List Blks) : (A ++ (x :: l :: [])).flatten.Perm (x :: l :: A).flatten := (List.perm_append_comm (l₁ := A) (l₂ := [x, l])).flatten
/-- One step of the first pair. -/
theorem step4 {x : Dd} (h : Four F w g m gr e me er room k k2) (hk : k ≤ 900) (hx : DdOk F.heap x) (hroom : room ≤ 9223372036854775807) :
    Calls Try.prog 34 #[.pointer (some ⟨g, 0, none⟩), .pointer (some ⟨gr, 0, none⟩), .agg #[.int .i64 x.op, .string x.name, .string x.dest, .slice x.A x.n x.c, .int .i64 x.k]] w
      (Ret fun v w' => v = .bool true ∧ ∃ G, F.under G ∧ Four G w' g m gr e me er room (k + 1) k2) := by
  obtain ⟨X, Y, h1, h2, hm⟩ := h
  exact Ret.mono (step_c (x := x) (h1.both hm) hk hx hroom) fun v w' ⟨hv, G, hu, hb⟩ => by
    obtain ⟨X', h3, hm'⟩ := hb.pair
    exact ⟨hv, G, hu, X', Y, h3, h2.mono hu, hm'⟩
theorem like4 (h : Four F w g m gr e me er room k k2) (hk : k ≤ 900) :
    Calls Try.prog 35 #[.pointer (some ⟨g, 0, none⟩), .pointer (some ⟨gr, 0, none⟩)] w (Ret fun v w' => v = .bool true ∧ ∃ G, F.under G ∧ Four G w' g m gr e me er room k k2) := by
  obtain ⟨X, Y, h1, h2, hm⟩ := h
  exact Ret.mono (like_c (h1.both hm) hk) fun v w' ⟨hv, G, hu, hb⟩ => by
    obtain ⟨X', h3, hm'⟩ := hb.pair
    exact ⟨hv, G, hu, X', Y, h3, h2.mono hu, hm'⟩
theorem Four.under (h : Four F w g m gr e me er room k k2) : Mem F w [] := by
  obtain ⟨X, Y, _, _, hm⟩ := h
  exact hm.subF (List.nil_sublist _)
end

set_option maxHeartbeats 16000000 in
theorem disk_copies_c {F : Env} {w : World} {A : Option Addr} {n c : Nat} {xs : List Dd} {room at0 : Int} (hm : Mem F w []) (hnc : n ≤ c ∧ c ≤ maxLen) (hr : Row F.heap A (n * 5) (xs.flatMap Dd.cells)) (hx : ∀ x ∈ xs, DdOk F.heap x) (hl : xs.length = n) (hroom : room ≤ 9223372036854775807) :
    Calls Try.prog 8 #[.int .i64 room, .slice A n c, .int .i64 at0] w (Ret fun v w' => v = .bool true ∧ Mem F w' []) := by
  refine Calls.of_vc Try.func8 rfl Try.ntmps8 rfl ?_
  repeat (first | refine VC.seq ?_ | refine VC.block ?_ | refine VC.skip ?_)
  refine VC.region ?_
  refine VR.pure rfl rfl (p_assignB rfl) ?_
  refine VR.nil ?_
  repeat (first | refine VC.seq ?_ | refine VC.block ?_ | refine VC.skip ?_)
  refine VC.region ?_
  refine VR.pure rfl rfl (p_moveL rfl) ?_
  refine VR.pure rfl rfl (p_len Try.underlying50 rfl) ?_
  refine VR.pure rfl rfl (p_gt rfl rfl) ?_
  refine VR.nil ?_
  repeat (first | refine VC.seq ?_ | refine VC.block ?_ | refine VC.skip ?_)
  refine VC.meet (σ := Nat × List Dd) (fun s => [(0, .int .i64 room), (1, .slice A s.1 c), (2, .int .i64 at0)]) (fun s w => Mem F w [] ∧ s.1 ≤ 60 ∧ s.2.length = s.1 ∧ Row F.heap A (s.1 * 5) (s.2.flatMap Dd.cells) ∧ ∀ x ∈ s.2, DdOk F.heap x) ?_ ?_
  · repeat (first | refine VC.seq ?_ | refine VC.block ?_ | refine VC.skip ?_)
    refine VC.condD rfl (fun h3 => ?_) (fun h3 => ?_)
    · repeat (first | refine VC.seq ?_ | refine VC.block ?_ | refine VC.skip ?_)
      refine VC.region ?_
      refine VR.pure rfl rfl (p_moveL rfl) ?_
      refine VR.pure rfl rfl (p_sliceHN (h := 60) Try.underlying50 Try.sizeOf55 rfl rfl (by omega)) ?_
      refine VR.pure rfl rfl (p_assignL rfl) ?_
      refine VR.nil ?_
      exact ⟨(60, xs.take 60), ⟨rfl, rfl, rfl, trivial⟩, hm, Nat.le_refl _, by show (xs.take 60).length = 60; rw [List.length_take]; omega, hr.heads Dd.len hl (by omega), fun x h => hx x (List.mem_of_mem_take h)⟩
    · repeat (first | refine VC.seq ?_ | refine VC.block ?_ | refine VC.skip ?_)
      exact ⟨(n, xs), ⟨rfl, rfl, rfl, trivial⟩, hm, by show n ≤ 60; omega, hl, hr, hx⟩
  clear hm hr hnc hl hx
  rintro ⟨n, xs⟩ A0 w ⟨hm, hn, hl, hr, hx⟩
  dsimp only at hn hl hr hx ⊢
  repeat (first | refine VC.seq ?_ | refine VC.block ?_ | refine VC.skip ?_)
  refine VC.region ?_
  refine VR.pure rfl rfl (p_moveI rfl) ?_
  refine VR.pure rfl rfl (p_moveL rfl) ?_
  refine VR.pure rfl rfl (p_len Try.underlying50 rfl) ?_
  refine VR.pure rfl rfl (p_add64 rfl rfl (by omega)) ?_
  refine VR.call rfl rfl (r_call2 Try.call21 rfl rfl) (pick_c (by omega)) ?_
  rintro _ _ ⟨⟨a, ha, rfl⟩, rfl⟩
  refine VR.pure rfl rfl (p_assignI rfl) ?_
  refine VR.nil ?_
  have han : a ≤ n := by omega
  repeat (first | refine VC.seq ?_ | refine VC.block ?_ | refine VC.skip ?_)
  refine VC.region ?_
  refine VR.pure rfl rfl (p_moveI rfl) ?_
  refine VR.call rfl rfl (r_call1 Try.call11 rfl) (new_c hm hroom) ?_
  rintro _ w ⟨g, m, D0, rfl, e0, hD0, hm⟩
  refine VR.pure rfl rfl (p_moveI rfl) ?_
  refine VR.call rfl rfl (r_call1 Try.call33 rfl) (rnew_c hm) ?_
  rintro _ w ⟨gr, rfl, hm⟩
  refine VR.pure rfl rfl (p_assignP rfl) ?_
  refine VR.pure rfl rfl (p_assignP rfl) ?_
  refine VR.nil ?_
  obtain ⟨A3, c3, L3, ho3, hok3, hm⟩ := RMem.to (D := D0) (g := g) (m := m) (Ls := []) hm
  have hrm : max room 0 ≤ 9223372036854775807 := by omega
  have hb0 : Both F w g m gr (max room 0) 0 [] := ⟨D0, [], A3, c3, L3, hD0, sm_new e0, by rw [fs_len e0]; exact Nat.le_refl _, ho3, hok3, hm⟩
  generalize max room 0 = rm at hb0 hrm
  clear hm ho3 hok3 e0 hD0
  repeat (first | refine VC.seq ?_ | refine VC.block ?_ | refine VC.skip ?_)
  refine VC.region ?_
  refine VR.pure rfl rfl (p_assignI rfl) ?_
  refine VR.nil ?_
  repeat (first | refine VC.seq ?_ | refine VC.block ?_ | refine VC.skip ?_)
  refine VC.loop (σ := Nat × Env) (fun s => [(1, .slice A n c), (2, .int .i64 a), (7, .pointer (some ⟨g, 0, none⟩)), (8, .pointer (some ⟨gr, 0, none⟩)), (9, .int .i64 s.1)])
    (fun s w => s.1 ≤ a ∧ F.under s.2 ∧ Both s.2 w g m gr rm s.1 []) (fun s => a - s.1) (0, F) ⟨rfl, rfl, rfl, rfl, rfl, trivial⟩ ⟨by omega, Env.under_refl _, hb0⟩ ?_
  clear hb0
  rintro ⟨i, G⟩ A1 w ⟨hi, hu, hb⟩
  dsimp only at hi hu hb ⊢
  repeat (first | refine VC.seq ?_ | refine VC.block ?_ | refine VC.skip ?_)
  refine VC.region ?_
  refine VR.pure rfl rfl (p_moveI rfl) ?_
  refine VR.pure rfl rfl (p_moveI rfl) ?_
  refine VR.pure rfl rfl (p_lt rfl rfl) ?_
  refine VR.nil ?_
  repeat (first | refine VC.seq ?_ | refine VC.block ?_ | refine VC.skip ?_)
  refine VC.condD rfl (fun h6 => ?_) (fun h6 => ?_)
  · have hi' : i < n := by omega
    obtain ⟨x, hxi, hxm⟩ := get_of (xs := xs) (k := i) (by omega)
    have hxo := hx x hxm
    obtain ⟨b, off, blk, T, fr, rfl, hbk, hc⟩ := hr.elem Dd.len (by decide) (by omega)
    obtain ⟨D, rs, A4, c4, L4, hD, hs, hlen, ho, hok, hm⟩ := hb
    repeat (first | refine VC.seq ?_ | refine VC.block ?_ | refine VC.skip ?_)
    refine VC.region ?_
    refine VR.pure rfl rfl (p_moveP rfl) ?_
    refine VR.pure rfl rfl (p_moveP rfl) ?_
    refine VR.pure rfl rfl (p_moveL rfl) ?_
    refine VR.pure rfl rfl (p_moveI rfl) ?_
    refine VR.pure rfl rfl (p_idxN Try.underlying50 Try.sizeOf55 rfl rfl hi') ?_
    refine VR.val rfl rfl (r_loadAgg (vs := [.int .i64 x.op, .string x.name, .string x.dest, .slice x.A x.n x.c, .int .i64 x.k]) Try.isAgg55 Try.sizeOf55 rfl (hm.fix _ _ (hu.heap _ _ hbk)) rfl (hc i x hxi)) ?_
    refine VR.call rfl rfl (r_call3 Try.call34 rfl rfl rfl) (step_c (x := x) ⟨D, rs, A4, c4, L4, hD, hs, hlen, ho, hok, hm⟩ (by omega) (hxo.mono hu.heap) hrm) ?_
    rintro _ w ⟨rfl, G1, hu1, hb⟩
    refine VR.nil ?_
    repeat (first | refine VC.seq ?_ | refine VC.block ?_ | refine VC.skip ?_)
    refine VC.region ?_
    refine VR.pure rfl rfl (p_moveI rfl) ?_
    refine VR.pure rfl rfl (p_add64 rfl rfl (by omega)) ?_
    refine VR.pure rfl rfl (p_assignI rfl) ?_
    refine VR.nil ?_
    exact ⟨(i + 1, G1), ⟨rfl, rfl, rfl, rfl, rfl, trivial⟩, ⟨by omega, hu.trans hu1, hb⟩, by omega⟩
  · repeat (first | refine VC.seq ?_ | refine VC.block ?_ | refine VC.skip ?_)
    refine VC.exit ?_
    obtain rfl : i = a := by omega
    obtain ⟨D, rs, A4, c4, L4, hD, hs, hlen, ho, hok, hm⟩ := hb
    have hrl := hs.len
    repeat (first | refine VC.seq ?_ | refine VC.block ?_ | refine VC.skip ?_)
    refine VC.region ?_
    refine VR.pure rfl rfl (p_moveP rfl) ?_
    refine VR.call rfl rfl (r_call1 Try.call14 rfl) (copy_c hm.focus hD) ?_
    rintro _ w ⟨e, me, D2, rfl, hroom2, hperm2, hD2, hm'⟩
    replace hm := hm.unL hm'
    refine VR.pure rfl rfl (p_moveP rfl) ?_
    replace hm : Mem G w ([(gr, rdisk rm rs A4 c4)] :: L4 :: (dkB e me D2 ++ dkB g m D)) := hm.permF (back2 _ _ _)
    refine VR.call rfl rfl (r_call1 Try.call37 rfl) (rcopy_c ho hm (by omega)) ?_
    rintro _ w ⟨er, A5, c5, L5, rfl, ho5, hm⟩
    refine VR.pure rfl rfl (p_assignP rfl) ?_
    refine VR.pure rfl rfl (p_assignP rfl) ?_
    refine VR.nil ?_
    have hs2 : Sm D2.abs rm rs := by
      refine ⟨?_, ?_, hs.asc⟩
      · show D2.room = rm
        rw [hroom2]
        exact hs.room
      · exact hperm2.trans hs.perm
    have hlen2 : D2.fs.length ≤ i := by
      have h1 := hperm2.length_eq
      rw [List.length_map, List.length_map] at h1
      omega
    have hf : Four G w g m gr e me er rm i i :=
      ⟨_, _, ⟨D, rs, A4, c4, L4, hD, hs, hlen, ho, hok, rfl⟩, ⟨D2, rs, A5, c5, L5, hD2, hs2, hlen2, ho5, hok, rfl⟩, hm.permF (four_perm [[(er, rdisk rm rs A5 c5)], L5] [[(gr, rdisk rm rs A4 c4)], L4] (dkB e me D2) (dkB g m D))⟩
    clear hm hD hs hlen ho hok hD2 hs2 hlen2 ho5 hperm2 hroom2 hrl
    have hf' := hf.swap
    repeat (first | refine VC.seq ?_ | refine VC.block ?_ | refine VC.skip ?_)
    refine VC.region ?_
    refine VR.pure rfl rfl (p_moveP rfl) ?_
    refine VR.pure rfl rfl (p_moveP rfl) ?_
    refine VR.call rfl rfl (r_call2 Try.call35 rfl rfl) (like4 hf' (by omega)) ?_
    rintro _ w ⟨rfl, G1, hu1, hf1⟩
    refine VR.pure rfl rfl (p_not rfl) ?_
    refine VR.nil ?_
    repeat (first | refine VC.seq ?_ | refine VC.block ?_ | refine VC.skip ?_)
    refine VC.condF rfl rfl ?_
    repeat (first | refine VC.seq ?_ | refine VC.block ?_ | refine VC.skip ?_)
    refine VC.region ?_
    refine VR.pure rfl rfl (p_moveI rfl) ?_
    refine VR.pure rfl rfl (p_assignI rfl) ?_
    refine VR.nil ?_
    repeat (first | refine VC.seq ?_ | refine VC.block ?_ | refine VC.skip ?_)
    refine VC.loop (σ := Nat × Env) (fun s => [(1, .slice A n c), (2, .int .i64 i), (7, .pointer (some ⟨g, 0, none⟩)), (8, .pointer (some ⟨gr, 0, none⟩)), (10, .pointer (some ⟨e, 0, none⟩)), (11, .pointer (some ⟨er, 0, none⟩)), (12, .int .i64 s.1)])
      (fun s w => i ≤ s.1 ∧ s.1 ≤ n ∧ F.under s.2 ∧ Four s.2 w g m gr e me er rm s.1 i) (fun s => n - s.1) (i, G1) ⟨rfl, rfl, rfl, rfl, rfl, rfl, rfl, trivial⟩ ⟨by omega, han, hu.trans hu1, hf1.swap⟩ ?_
    clear hf hf' hf1 hu hu1 h6
    rintro ⟨j, G2⟩ A2 w ⟨hij, hj, hu, hf⟩
    dsimp only at hij hj hu hf ⊢
    repeat (first | refine VC.seq ?_ | refine VC.block ?_ | refine VC.skip ?_)
    refine VC.region ?_
    refine VR.pure rfl rfl (p_moveI rfl) ?_
    refine VR.pure rfl rfl (p_moveL rfl) ?_
    refine VR.pure rfl rfl (p_len Try.underlying50 rfl) ?_
    refine VR.pure rfl rfl (p_lt rfl rfl) ?_
    refine VR.nil ?_
    repeat (first | refine VC.seq ?_ | refine VC.block ?_ | refine VC.skip ?_)
    refine VC.condD rfl (fun h13 => ?_) (fun h13 => ?_)
    · have hj' : j < n := by omega
      obtain ⟨x, hxi, hxm⟩ := get_of (xs := xs) (k := j) (by omega)
      have hxo := hx x hxm
      obtain ⟨b, off, blk, T, fr, rfl, hbk, hc⟩ := hr.elem Dd.len (by decide) (by omega)
      obtain ⟨X, Y, hX, hY, hm⟩ := hf
      repeat (first | refine VC.seq ?_ | refine VC.block ?_ | refine VC.skip ?_)
      refine VC.region ?_
      refine VR.pure rfl rfl (p_moveP rfl) ?_
      refine VR.pure rfl rfl (p_moveP rfl) ?_
      refine VR.pure rfl rfl (p_moveL rfl) ?_
      refine VR.pure rfl rfl (p_moveI rfl) ?_
      refine VR.pure rfl rfl (p_idxN Try.underlying50 Try.sizeOf55 rfl rfl hj') ?_
      refine VR.val rfl rfl (r_loadAgg (vs := [.int .i64 x.op, .string x.name, .string x.dest, .slice x.A x.n x.c, .int .i64 x.k]) Try.isAgg55 Try.sizeOf55 rfl (hm.fix _ _ (hu.heap _ _ hbk)) rfl (hc j x hxi)) ?_
      refine VR.call rfl rfl (r_call3 Try.call34 rfl rfl rfl) (step4 (x := x) ⟨X, Y, hX, hY, hm⟩ (by omega) (hxo.mono hu.heap) hrm) ?_
      rintro _ w ⟨rfl, G3, hu3, hf⟩
      refine VR.nil ?_
      repeat (first | refine VC.seq ?_ | refine VC.block ?_ | refine VC.skip ?_)
      refine VC.region ?_
      refine VR.pure rfl rfl (p_moveI rfl) ?_
      refine VR.pure rfl rfl (p_add64 rfl rfl (by omega)) ?_
      refine VR.pure rfl rfl (p_assignI rfl) ?_
      refine VR.nil ?_
      exact ⟨(j + 1, G3), ⟨rfl, rfl, rfl, rfl, rfl, rfl, rfl, trivial⟩, ⟨by omega, by omega, hu.trans hu3, hf⟩, by omega⟩
    · repeat (first | refine VC.seq ?_ | refine VC.block ?_ | refine VC.skip ?_)
      refine VC.exit ?_
      obtain rfl : j = n := by omega
      repeat (first | refine VC.seq ?_ | refine VC.block ?_ | refine VC.skip ?_)
      refine VC.region ?_
      refine VR.pure rfl rfl (p_moveP rfl) ?_
      refine VR.pure rfl rfl (p_moveP rfl) ?_
      refine VR.call rfl rfl (r_call2 Try.call35 rfl rfl) (like4 hf (by omega)) ?_
      rintro _ w ⟨rfl, G3, hu3, hf⟩
      refine VR.pure rfl rfl (p_not rfl) ?_
      refine VR.pure rfl rfl (p_moveB rfl) ?_
      refine VR.knownF 66 rfl rfl ?_
      refine VR.pureG rfl rfl (p_moveP rfl) ?_
      refine VR.pureG rfl rfl (p_moveP rfl) ?_
      have hf2 := hf.swap
      refine VR.callG rfl rfl (r_call2 Try.call35 rfl rfl) (like4 hf2 (by omega)) ?_
      rintro _ w ⟨rfl, G4, hu4, hf⟩
      refine VR.pureG rfl rfl (p_not rfl) ?_
      refine VR.pure rfl rfl (p_pickF rfl rfl) ?_
      refine VR.nil ?_
      repeat (first | refine VC.seq ?_ | refine VC.block ?_ | refine VC.skip ?_)
      refine VC.condF rfl rfl ?_
      replace hu := (hu.trans hu3).trans hu4
      repeat (first | refine VC.seq ?_ | refine VC.block ?_ | refine VC.skip ?_)
      refine VC.region ?_
      refine VR.pure rfl rfl (p_moveL rfl) ?_
      refine VR.pure rfl rfl (p_len Try.underlying50 rfl) ?_
      refine VR.pure rfl rfl (p_sub64 rfl rfl (by omega)) ?_
      refine VR.pure rfl rfl (p_assignI rfl) ?_
      refine VR.nil ?_
      repeat (first | refine VC.seq ?_ | refine VC.block ?_ | refine VC.skip ?_)
      refine VC.loop (σ := Int × Nat × Env) (fun s => [(1, .slice A j c), (2, .int .i64 i), (7, .pointer (some ⟨g, 0, none⟩)), (8, .pointer (some ⟨gr, 0, none⟩)), (10, .pointer (some ⟨e, 0, none⟩)), (11, .pointer (some ⟨er, 0, none⟩)), (13, .int .i64 s.1)])
        (fun s w => s.1 + 1 + s.2.1 = j ∧ (i : Int) ≤ s.1 + 1 ∧ F.under s.2.2 ∧ Four s.2.2 w e me er g m gr rm (i + s.2.1) j) (fun s => (s.1 + 1).toNat) ((j : Int) - 1, 0, G4) ⟨rfl, rfl, rfl, rfl, rfl, rfl, rfl, trivial⟩ ⟨by show (j : Int) - 1 + 1 + ((0 : Nat) : Int) = j; omega, by show (i : Int) ≤ (j : Int) - 1 + 1; omega, hu, hf⟩ ?_
      clear hf hf2 hu hu3 hu4 h13
      rintro ⟨z, q, G5⟩ A6 w ⟨hz1, hz2, hu, hf⟩
      dsimp only at hz1 hz2 hu hf ⊢
      repeat (first | refine VC.seq ?_ | refine VC.block ?_ | refine VC.skip ?_)
      refine VC.region ?_
      refine VR.pure rfl rfl (p_moveI rfl) ?_
      refine VR.pure rfl rfl (p_moveI rfl) ?_
      refine VR.pure rfl rfl (p_ge rfl rfl) ?_
      refine VR.nil ?_
      repeat (first | refine VC.seq ?_ | refine VC.block ?_ | refine VC.skip ?_)
      refine VC.condD rfl (fun h19 => ?_) (fun h19 => ?_)
      · obtain ⟨y, rfl⟩ : ∃ y : Nat, z = (y : Int) := ⟨z.toNat, by omega⟩
        have hy' : y < j := by omega
        obtain ⟨x, hxi, hxm⟩ := get_of (xs := xs) (k := y) (by omega)
        have hxo := hx x hxm
        obtain ⟨b, off, blk, T, fr, rfl, hbk, hc⟩ := hr.elem Dd.len (by decide) (by omega)
        obtain ⟨X, Y, hX, hY, hm⟩ := hf
        repeat (first | refine VC.seq ?_ | refine VC.block ?_ | refine VC.skip ?_)
        refine VC.region ?_
        refine VR.pure rfl rfl (p_moveP rfl) ?_
        refine VR.pure rfl rfl (p_moveP rfl) ?_
        refine VR.pure rfl rfl (p_moveL rfl) ?_
        refine VR.pure rfl rfl (p_moveI rfl) ?_
        refine VR.pure rfl rfl (p_idxN Try.underlying50 Try.sizeOf55 rfl rfl hy') ?_
        refine VR.val rfl rfl (r_loadAgg (vs := [.int .i64 x.op, .string x.name, .string x.dest, .slice x.A x.n x.c, .int .i64 x.k]) Try.isAgg55 Try.sizeOf55 rfl (hm.fix _ _ (hu.heap _ _ hbk)) rfl (hc y x hxi)) ?_
        refine VR.call rfl rfl (r_call3 Try.call34 rfl rfl rfl) (step4 (x := x) ⟨X, Y, hX, hY, hm⟩ (by omega) (hxo.mono hu.heap) hrm) ?_
        rintro _ w ⟨rfl, G6, hu6, hf⟩
        refine VR.nil ?_
        repeat (first | refine VC.seq ?_ | refine VC.block ?_ | refine VC.skip ?_)
        refine VC.region ?_
        refine VR.pure rfl rfl (p_moveI rfl) ?_
        refine VR.pure rfl rfl (p_sub64 rfl rfl (by omega)) ?_
        refine VR.pure rfl rfl (p_assignI rfl) ?_
        refine VR.nil ?_
        exact ⟨((y : Int) - 1, q + 1, G6), ⟨rfl, rfl, rfl, rfl, rfl, rfl, rfl, trivial⟩, ⟨by show (y : Int) - 1 + 1 + ((q + 1 : Nat) : Int) = j; omega, by show (i : Int) ≤ (y : Int) - 1 + 1; omega, hu.trans hu6, hf⟩, by show ((y : Int) - 1 + 1).toNat < ((y : Int) + 1).toNat; omega⟩
      · repeat (first | refine VC.seq ?_ | refine VC.block ?_ | refine VC.skip ?_)
        refine VC.exit ?_
        obtain ⟨X, Y, ⟨D, rs, A7, c7, L7, hD, hs, hlen, ho, hok, rfl⟩, hY, hm⟩ := hf
        have hrl := hs.len
        replace hm : Mem G5 w (two e me D er rm rs A7 c7 L7 Y) := by rw [List.append_assoc] at hm; exact hm
        repeat (first | refine VC.seq ?_ | refine VC.block ?_ | refine VC.skip ?_)
        refine VC.region ?_
        refine VR.pure rfl rfl (p_moveP rfl) ?_
        refine VR.call rfl rfl (r_call2 Try.call15 rfl rfl) (crashK hm hD rfl rfl) ?_
        rintro v1 w ⟨D8, he8, hD8, hm⟩
        refine VR.nil ?_
        repeat (first | refine VC.seq ?_ | refine VC.block ?_ | refine VC.skip ?_)
        refine VC.region ?_
        refine VR.pure rfl rfl (p_moveP rfl) ?_
        refine VR.call rfl rfl (r_call2 Try.call38 rfl rfl) (rcrash2 ho hok hm (by omega) hs.asc) ?_
        rintro v1 w ⟨G6, rs8, A8, c8, L8, hp8, ha8, hu8, ho8, hok8, hm⟩
        refine VR.nil ?_
        have hlen8 : D8.fs.length ≤ i + q := by
          have h1 := fs_len he8
          have h2 : (crashD D.abs 1).fs.length = D.fs.length := by
            show ((D.fs.map Fl.abs).map _).length = _
            rw [List.length_map, List.length_map]
          omega
        have hs8 : Sm D8.abs rm rs8 := by
          refine ⟨?_, ?_, ha8⟩
          · rw [he8]
            exact hs.room
          · rw [he8, hp8]
            exact hs.perm.map _
        have hf8 : Four G6 w e me er g m gr rm (i + q) j := ⟨_, _, ⟨D8, rs8, A8, c8, L8, hD8, hs8, hlen8, ho8, hok8, rfl⟩, hY.mono hu8, by rw [List.append_assoc]; exact hm⟩
        clear hm
        repeat (first | refine VC.seq ?_ | refine VC.block ?_ | refine VC.skip ?_)
        refine VC.region ?_
        refine VR.pure rfl rfl (p_moveP rfl) ?_
        refine VR.pure rfl rfl (p_moveP rfl) ?_
        refine VR.call rfl rfl (r_call2 Try.call35 rfl rfl) (like4 hf8 (by omega)) ?_
        rintro _ w ⟨rfl, G7, hu7, hf⟩
        refine VR.pure rfl rfl (p_moveB rfl) ?_
        refine VR.knownT 94 rfl rfl ?_
        refine VR.pureG rfl rfl (p_moveP rfl) ?_
        refine VR.pureG rfl rfl (p_moveP rfl) ?_
        have hf7 := hf.swap
        refine VR.callG rfl rfl (r_call2 Try.call35 rfl rfl) (like4 hf7 (by omega)) ?_
        rintro _ w ⟨rfl, G8, hu9, hf⟩
        refine VR.pure rfl rfl (p_pickT rfl rfl) ?_
        refine VR.pure rfl rfl (p_moveB rfl) ?_
        refine VR.knownT 99 rfl rfl ?_
        have hm := hf.under
        refine VR.callG rfl rfl (r_call0 Try.call10) (awake_c hm) ?_
        rintro _ w ⟨rfl, hm⟩
        refine VR.pure rfl rfl (p_pickT rfl rfl) ?_
        refine VR.pure rfl rfl (p_assignB rfl) ?_
        refine VR.nil ?_
        repeat (first | refine VC.seq ?_ | refine VC.block ?_ | refine VC.skip ?_)
        refine VC.ret ⟨_, ResOf.r1 (v := .bool _) rfl rfl, ?_⟩
        exact ⟨rfl, hm.shrink (((hu.trans hu8).trans hu7).trans hu9)⟩
end Go.Bd
namespace Go.Proofs.Ytjohjlhjeommiaa
open Go.Bd Go.ChangeShapes Go.WideShapes

set_option maxRecDepth 100000 in
theorem copies_lifted (os : Os) (started : os.Started) (H : Type) (enc : TypeId × Value → H) :
    ReturnsInHanded {} Try.checked os 8 .any (Rows.diskCopiesSpec.pre6 enc Try.prog Try.f8 Rows.diskCopiesRow.domain false) (Rows.diskCopiesSpec.post enc Try.prog Try.f8 false true false false) := by
  refine law_frame (C := Try.checked) (tb := 4) (by kernel_rfl) (by kernel_rfl) started (by kernel_rfl) Try.func8 rfl rfl Try.underlying4 (by kernel_rfl) ?_
    (ChangeSpec.witness6 (enc := enc) (C := Try.checked) false ⟨#[], #[.int .i64 0, .slice none 0 0, .int .i64 0], []⟩ 8 (by kernel_rfl) (by kernel_rfl) (by kernel_rfl) (by kernel_rfl)) ?_
  · intro ds hl
    match ds, hl with
    | [d1, d2, d3], _ => rfl
  · intro W base args ds p hval hA hwt
    replace hA : DataW.TrodAll enc Try.prog W 0 (fun _ => true) true Try.f8.params.toList args.toList ds p := hA
    rw [Try.params8] at hA hval
    replace hwt : (DataW.weightsEach Try.prog [3, 50, 3] ds).all (· ≤ reachBytes) = true := hwt
    obtain ⟨v0, vs0, d0, ds0, p0, q0, hargs, rfl, rfl, h0, r0⟩ := trodAll_cons hA
    obtain ⟨v1, vs1, d1, ds1, p1, q1, rfl, rfl, rfl, h1, r1⟩ := trodAll_cons r0
    obtain ⟨v2, vs2, d2, ds2, p2, q2, rfl, rfl, rfl, h2, r2⟩ := trodAll_cons r1
    obtain ⟨rfl, rfl, rfl⟩ := trodAll_nil r2
    obtain rfl : args = #[v0, v1, v2] := by cases args; simp_all
    obtain ⟨a0, rfl, _, _, w0⟩ := open_int Try.underlying3 (hval 0 3 v0 rfl rfl) h0
    obtain ⟨a2, rfl, _, _, w2⟩ := open_int Try.underlying3 (hval 2 3 v2 rfl rfl) h2
    obtain ⟨_, _, _, rfl⟩ := okWide_slice Try.underlying50 (hval 1 50 v1 rfl rfl)
    obtain ⟨fuel, hf⟩ := h1
    obtain ⟨A, n, c, xs, e1, hnc, hcm, _, hr, hx, hxl⟩ := open_rows (cells := Dd.cells) (Q := fun x => DdOk (Env.of W).heap x) Try.underlying50 cel55 (by decide) Dd.len open_do hf (LightAll.cons (LightAll.cons hwt).2).1
    simp [Value.cells] at e1
    obtain ⟨rfl, rfl, rfl⟩ := e1
    exact disk_copies_c (Mem.of W) ⟨hnc, hcm⟩ hr hx hxl (int_top w0)

theorem copies : Rows.DiskCopiesSaid :=
  OpenClaim.holds_of_wide 8 Try.f8 rfl rfl rfl rfl rfl rfl rfl ⟨rfl, rfl, rfl, rfl, rfl⟩ rfl rfl rfl rfl rfl (by kernel_rfl) Try.func8 (by kernel_rfl)
    (of_decide_eq_true (by kernel_rfl)) (by unfold Func.isWrapper; rw [if_neg (of_decide_eq_false (by kernel_rfl))]; exact ⟨rfl, rfl⟩)
    (fun os started H enc _ => copies_lifted os started H enc)
end Go.Proofs.Ytjohjlhjeommiaa
