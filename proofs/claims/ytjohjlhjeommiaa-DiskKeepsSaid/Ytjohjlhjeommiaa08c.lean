/- Contracts of layer 8: sync, read, cut, remove, rename, used, crash. Conditions: as each states. -/
import Derived.Test.Ytjohjlhjeommiaa08b
namespace Go.Bd
open Go.Proofs
set_option linter.unusedVariables false
set_option maxRecDepth 20000

theorem OwnO.head {e : TypeId} {s : Nat} {A : Option Addr} {n c k : Nat} {xs : List Value} {L : Blks} (h : OwnO e s A n c xs L) (hk : k ≤ n) : OwnO e s A k k (xs.take (k * s)) L := by
  have hks : k * s ≤ n * s := Nat.mul_le_mul_right _ hk
  refine ⟨by rw [List.length_take, h.1]; omega, ?_⟩
  rcases h.2 with ⟨rfl, rfl, rfl, rfl⟩ | ⟨g, off, cur, rfl, rfl, hn, hc, hs, ht⟩
  · exact .inl ⟨rfl, by omega, by omega, rfl⟩
  · refine .inr ⟨g, off, cur, rfl, rfl, Nat.le_refl _, by omega, ?_, ?_⟩
    · have : k * s ≤ c * s := Nat.mul_le_mul_right _ (by omega)
      omega
    · rw [← ht, List.take_take, Nat.min_eq_left hks]
theorem FlOk.cut {f : Fl} (h : FlOk f) {k : Nat} (hk : k ≤ f.n) : FlOk { f with l := f.l.take k, sy := k, n := k, c := k } := by
  have h1 := h.own.head hk
  have h2 := h.n
  rw [Nat.mul_one] at h1
  refine ⟨?_, by show k ≤ _; omega, by show (0 : Int) ≤ k ∧ (k : Int) ≤ (k : Nat); omega⟩
  show OwnO _ _ _ _ _ (bytes (f.l.take k)) _
  unfold bytes
  rw [List.map_take]
  exact h1

set_option maxHeartbeats 1000000 in
theorem sync_c {F : Env} {w : World} {g m : Nat} {D : Dk} {s : ByteArray} (hm : Mem F w (dkB g m D)) (hD : DkOk D) :
    Calls Try.prog 13 #[.pointer (some ⟨g, 0, none⟩), .string s] w (Ret (Step F g m (syncD D.abs s))) := by
  refine Calls.of_vc Try.func13 rfl Try.ntmps13 rfl ?_
  repeat (first | refine VC.seq ?_ | refine VC.block ?_ | refine VC.skip ?_)
  refine VC.region ?_
  refine VR.pure rfl rfl (p_assignI rfl) ?_
  refine VR.nil ?_
  rcases hit_or (fs := D.fs) s with ⟨i, f, hi, rfl⟩ | hno
  · have hf := hD.files f (List.mem_of_getElem? hi)
    have hsync : syncD D.abs f.name = (0, ⟨D.room, updA D.abs.fs f.name fun f => (f.1, f.2.1, f.2.1.length)⟩) := by
      unfold syncD
      rw [hD.in_ hi]
      rfl
    rw [hsync]
    repeat (first | refine VC.seq ?_ | refine VC.block ?_ | refine VC.skip ?_)
    refine VC.region ?_
    refine VR.pure rfl rfl (p_moveP rfl) ?_
    refine VR.pure rfl rfl (p_moveZ rfl) ?_
    refine VR.call rfl rfl (r_call2 Try.call42 rfl rfl) (find_hit_c hm hD hi) ?_
    rintro _ w ⟨rfl, hm⟩
    refine VR.pure rfl rfl (p_moveT rfl) ?_
    refine VR.pure rfl rfl (p_extract rfl rfl) ?_
    refine VR.pure rfl rfl (p_extract rfl rfl) ?_
    refine VR.pure rfl rfl (p_assignP rfl) ?_
    refine VR.pure rfl rfl (p_assignI rfl) ?_
    refine VR.nil ?_
    repeat (first | refine VC.seq ?_ | refine VC.block ?_ | refine VC.skip ?_)
    refine VC.region ?_
    refine VR.pure rfl rfl (p_moveI rfl) ?_
    refine VR.pure rfl rfl (p_eq rfl rfl) ?_
    refine VR.nil ?_
    repeat (first | refine VC.seq ?_ | refine VC.block ?_ | refine VC.skip ?_)
    refine VC.condT rfl (decide_eq_true rfl) ?_
    unfold dkB at hm
    replace hm := hm.openF hi
    repeat (first | refine VC.seq ?_ | refine VC.block ?_ | refine VC.skip ?_)
    refine VC.region ?_
    refine VR.pure rfl rfl (p_moveP rfl) ?_
    refine VR.pure rfl rfl (p_moveP rfl) ?_
    refine VR.pure rfl rfl (p_nilCheck rfl) ?_
    refine VR.pure rfl rfl (p_field (fo := 0) Try.underlying68 rfl Try.sizeOf22 rfl rfl rfl) ?_
    refine VR.val rfl rfl (r_load (v := .slice _ _ _) Try.isAgg22 rfl (hm.at_ 2 0 rfl) rfl) ?_
    refine VR.pure rfl rfl (p_len Try.underlying22 rfl) ?_
    refine VR.pure rfl rfl (p_nilCheck rfl) ?_
    refine VR.pure rfl rfl (p_field (fo := 1) Try.underlying68 rfl Try.sizeOf3 rfl rfl rfl) ?_
    refine VR.store (cs' := #[.slice f.A f.n f.c, .int .i64 f.n]) (v := .int _ _) Try.sizeOf3 rfl rfl rfl rfl rfl hm 2 0 rfl (Nat.ble_eq.mp rfl) rfl ?_
    intro w hm
    refine VR.nil ?_
    repeat (first | refine VC.seq ?_ | refine VC.block ?_ | refine VC.skip ?_)
    refine VC.region ?_
    refine VR.pure rfl rfl (p_moveI rfl) ?_
    refine VR.pure rfl rfl (p_assignI rfl) ?_
    refine VR.nil ?_
    repeat (first | refine VC.seq ?_ | refine VC.block ?_ | refine VC.skip ?_)
    refine VC.ret ⟨_, ResOf.r1 (v := .int _ _) rfl rfl, ?_⟩
    have hok : FlOk { f with sy := f.n } := ⟨hf.own, hf.n, by show (0 : Int) ≤ f.n ∧ (f.n : Int) ≤ f.n; omega⟩
    obtain ⟨hD', hents⟩ := hD.turn hi (f' := { f with sy := f.n }) rfl rfl rfl hok (used := D.used) (by show _ = D.used - f.n + f.n; omega) hD.room.1
    refine ⟨_, rfl, ?_, hD', ?_⟩
    · show Da.mk D.room ((D.fs.set i _).map Fl.abs) = _
      rw [List.map_set]
      refine congrArg _ ?_
      rw [show updA D.abs.fs f.name (fun f => (f.1, f.2.1, (f.2.1.length : Int))) = _ from updA_at hD.apart (hD.hit hi) (fun f => (f.1, f.2.1, (f.2.1.length : Int)))]
      congr 1
      show (f.name, f.l, (f.n : Int)) = (f.name, f.l, (f.l.length : Int))
      rw [hf.len]
    · have h3 := Mem.closeF { f with sy := f.n } hm hi
      unfold dkB Dk.map Dk.ents
      rw [hents]
      exact h3
  · have hsync : syncD D.abs s = (6, D.abs) := by
      unfold syncD
      rw [show inA D.abs.fs s = none from inA_none (Dk.out hno)]
    rw [hsync]
    repeat (first | refine VC.seq ?_ | refine VC.block ?_ | refine VC.skip ?_)
    refine VC.region ?_
    refine VR.pure rfl rfl (p_moveP rfl) ?_
    refine VR.pure rfl rfl (p_moveZ rfl) ?_
    refine VR.call rfl rfl (r_call2 Try.call42 rfl rfl) (find_miss_c hm hD hno) ?_
    rintro _ w ⟨rfl, hm⟩
    refine VR.pure rfl rfl (p_moveT rfl) ?_
    refine VR.pure rfl rfl (p_extract rfl rfl) ?_
    refine VR.pure rfl rfl (p_extract rfl rfl) ?_
    refine VR.pure rfl rfl (p_assignP rfl) ?_
    refine VR.pure rfl rfl (p_assignI rfl) ?_
    refine VR.nil ?_
    repeat (first | refine VC.seq ?_ | refine VC.block ?_ | refine VC.skip ?_)
    refine VC.region ?_
    refine VR.pure rfl rfl (p_moveI rfl) ?_
    refine VR.pure rfl rfl (p_eq rfl rfl) ?_
    refine VR.nil ?_
    repeat (first | refine VC.seq ?_ | refine VC.block ?_ | refine VC.skip ?_)
    refine VC.condF rfl (decide_eq_false (by omega)) ?_
    repeat (first | refine VC.seq ?_ | refine VC.block ?_ | refine VC.skip ?_)
    refine VC.region ?_
    refine VR.pure rfl rfl (p_moveI rfl) ?_
    refine VR.pure rfl rfl (p_assignI rfl) ?_
    refine VR.nil ?_
    repeat (first | refine VC.seq ?_ | refine VC.block ?_ | refine VC.skip ?_)
    refine VC.ret ⟨_, ResOf.r1 (v := .int _ _) rfl rfl, ?_⟩
    exact ⟨D, rfl, rfl, hD, hm⟩

/-- What is read: a file's bytes in new memory, or that there is none. -/
def readA (d : Da) (s : ByteArray) : Int × List Int :=
  match inA d.fs s with
  | some f => (0, f.2.1)
  | none => (6, [])
set_option maxHeartbeats 1000000 in
theorem read_c {F : Env} {w : World} {g m : Nat} {D : Dk} {s : ByteArray} (hm : Mem F w (dkB g m D)) (hD : DkOk D) :
    Calls Try.prog 16 #[.pointer (some ⟨g, 0, none⟩), .string s] w (Ret fun v w' => ∃ A n c L, v = .tuple #[.slice A n c, .int .i64 (readA D.abs s).1] ∧ OwnS 5 1 A n c (bytes (readA D.abs s).2) L ∧ n ≤ 4194304 ∧ Mem F w' (L :: dkB g m D)) := by
  refine Calls.of_vc Try.func16 rfl Try.ntmps16 rfl ?_
  repeat (first | refine VC.seq ?_ | refine VC.block ?_ | refine VC.skip ?_)
  refine VC.region ?_
  refine VR.pure rfl rfl (p_assignL rfl) ?_
  refine VR.pure rfl rfl (p_assignI rfl) ?_
  refine VR.nil ?_
  rcases hit_or (fs := D.fs) s with ⟨i, f, hi, rfl⟩ | hno
  · have hf := hD.files f (List.mem_of_getElem? hi)
    have hfn := hf.n
    have hread : readA D.abs f.name = (0, f.l) := by
      unfold readA
      rw [hD.in_ hi]
      rfl
    rw [hread]
    repeat (first | refine VC.seq ?_ | refine VC.block ?_ | refine VC.skip ?_)
    refine VC.region ?_
    refine VR.pure rfl rfl (p_moveP rfl) ?_
    refine VR.pure rfl rfl (p_moveZ rfl) ?_
    refine VR.call rfl rfl (r_call2 Try.call42 rfl rfl) (find_hit_c hm hD hi) ?_
    rintro _ w ⟨rfl, hm⟩
    refine VR.pure rfl rfl (p_moveT rfl) ?_
    refine VR.pure rfl rfl (p_extract rfl rfl) ?_
    refine VR.pure rfl rfl (p_extract rfl rfl) ?_
    refine VR.pure rfl rfl (p_assignP rfl) ?_
    refine VR.pure rfl rfl (p_assignI rfl) ?_
    refine VR.nil ?_
    repeat (first | refine VC.seq ?_ | refine VC.block ?_ | refine VC.skip ?_)
    refine VC.region ?_
    refine VR.pure rfl rfl (p_moveI rfl) ?_
    refine VR.pure rfl rfl (p_ne rfl rfl) ?_
    refine VR.nil ?_
    repeat (first | refine VC.seq ?_ | refine VC.block ?_ | refine VC.skip ?_)
    refine VC.condF rfl (decide_eq_false (not_not_intro rfl)) ?_
    unfold dkB at hm ⊢
    replace hm := hm.openF hi
    repeat (first | refine VC.seq ?_ | refine VC.block ?_ | refine VC.skip ?_)
    refine VC.region ?_
    refine VR.pure rfl rfl (p_moveP rfl) ?_
    refine VR.pure rfl rfl (p_nilCheck rfl) ?_
    refine VR.pure rfl rfl (p_field (fo := 0) Try.underlying68 rfl Try.sizeOf22 rfl rfl rfl) ?_
    refine VR.val rfl rfl (r_load (v := .slice _ _ _) Try.isAgg22 rfl (hm.at_ 2 0 rfl) rfl) ?_
    have hr := hf.own.row (hm.plus_mem (.tail _ (.tail _ (.tail _ (.head _)))))
    rw [Nat.mul_one] at hr
    have hcl := clone_c (c := f.c) hm.all (by omega) hr
    refine VR.call rfl rfl (r_call1 Try.call43 rfl) (hcl) ?_
    rintro _ w ⟨A', c', L, rfl, ho, hm'⟩
    replace hm := hm.back hm'
    refine VR.pure rfl rfl (p_assignL rfl) ?_
    refine VR.pure rfl rfl (p_assignI rfl) ?_
    refine VR.nil ?_
    repeat (first | refine VC.seq ?_ | refine VC.block ?_ | refine VC.skip ?_)
    refine VC.ret ⟨_, ResOf.r2 (v := .slice _ _ _) (u := .int _ _) rfl rfl rfl, ?_⟩
    refine ⟨A', f.n, c', L, rfl, ho, hfn, ?_⟩
    have h1 : Mem F w (L :: [(g, D.obj m)] :: [(m, D.map)] :: [(f.blk, f.obj)] :: f.L :: (D.fs.eraseIdx i).map Fl.mem) := hm
    have h2 := ((((h1.pull 1 rfl).pull 2 rfl).pull 3 rfl).pull 4 rfl)
    exact h1.permF (by
      have h := flat_perm (perm_out hi)
      simp only [List.flatten_cons]
      refine (List.Perm.refl _).append ((List.Perm.refl _).append ((List.Perm.refl _).append ?_))
      refine List.Perm.trans ?_ h.symm
      rw [List.map_cons, List.flatten_cons, ← List.append_assoc]
      exact List.Perm.refl _)
  · have hread : readA D.abs s = (6, []) := by
      unfold readA
      rw [show inA D.abs.fs s = none from inA_none (Dk.out hno)]
    rw [hread]
    repeat (first | refine VC.seq ?_ | refine VC.block ?_ | refine VC.skip ?_)
    refine VC.region ?_
    refine VR.pure rfl rfl (p_moveP rfl) ?_
    refine VR.pure rfl rfl (p_moveZ rfl) ?_
    refine VR.call rfl rfl (r_call2 Try.call42 rfl rfl) (find_miss_c hm hD hno) ?_
    rintro _ w ⟨rfl, hm⟩
    refine VR.pure rfl rfl (p_moveT rfl) ?_
    refine VR.pure rfl rfl (p_extract rfl rfl) ?_
    refine VR.pure rfl rfl (p_extract rfl rfl) ?_
    refine VR.pure rfl rfl (p_assignP rfl) ?_
    refine VR.pure rfl rfl (p_assignI rfl) ?_
    refine VR.nil ?_
    repeat (first | refine VC.seq ?_ | refine VC.block ?_ | refine VC.skip ?_)
    refine VC.region ?_
    refine VR.pure rfl rfl (p_moveI rfl) ?_
    refine VR.pure rfl rfl (p_ne rfl rfl) ?_
    refine VR.nil ?_
    repeat (first | refine VC.seq ?_ | refine VC.block ?_ | refine VC.skip ?_)
    refine VC.condT rfl (decide_eq_true (by omega)) ?_
    repeat (first | refine VC.seq ?_ | refine VC.block ?_ | refine VC.skip ?_)
    refine VC.region ?_
    refine VR.pure rfl rfl (p_moveI rfl) ?_
    refine VR.pure rfl rfl (p_assignL rfl) ?_
    refine VR.pure rfl rfl (p_assignI rfl) ?_
    refine VR.nil ?_
    repeat (first | refine VC.seq ?_ | refine VC.block ?_ | refine VC.skip ?_)
    refine VC.ret ⟨_, ResOf.r2 (v := .slice _ _ _) (u := .int _ _) rfl rfl rfl, ?_⟩
    exact ⟨none, 0, 0, [], rfl, OwnS.nil _ _, Nat.zero_le _, hm.nil_⟩

set_option maxHeartbeats 1000000 in
theorem cutf_c {F : Env} {w : World} {Ls : List Blks} {g m k : Nat} {room used : Int} {f : Fl} (hf : FlOk f) (hk : k ≤ f.n) (hu : 0 ≤ used - (f.n - k) ∧ used ≤ 9223372036854775807)
    (hm : Mem F w ([(g, .cells #[.int .i64 room, .int .i64 used, .map (some m)] 63 (0, 0))] :: [(f.blk, f.obj)] :: Ls)) :
    Calls Try.prog 44 #[.pointer (some ⟨g, 0, none⟩), .pointer (some ⟨f.blk, 0, none⟩), .int .i64 k] w
      (Ret fun v w' => Mem F w' ([(g, .cells #[.int .i64 room, .int .i64 (used - (f.n - k)), .map (some m)] 63 (0, 0))] :: [(f.blk, .cells #[.slice f.A k k, .int .i64 k] 68 (0, 0))] :: Ls)) := by
  have hle := hf.own.le
  have hfn := hf.n
  refine Calls.of_vc Try.func44 rfl Try.ntmps44 rfl ?_
  repeat (first | refine VC.seq ?_ | refine VC.block ?_ | refine VC.skip ?_)
  refine VC.free (Kept F ([(f.blk, f.obj)] :: [])) [3, 14] rfl (by kernel_rfl) (Kept.one hm.drew 1 rfl) ?_
  replace hm := hm.drew
  refine VD.pure 0 rfl (by kernel_rfl) rfl rfl (p_moveP rfl) ?_
  refine VD.pure 1 rfl (by kernel_rfl) rfl rfl (p_nilCheck rfl) ?_
  refine VD.pure 2 rfl (by kernel_rfl) rfl rfl (p_field (fo := 1) Try.underlying63 rfl Try.sizeOf3 rfl rfl rfl) ?_
  refine VD.pure 4 rfl (by kernel_rfl) rfl rfl (p_moveP rfl) ?_
  refine VD.pure 5 rfl (by kernel_rfl) rfl rfl (p_nilCheck rfl) ?_
  refine VD.pure 6 rfl (by kernel_rfl) rfl rfl (p_field (fo := 0) Try.underlying68 rfl Try.sizeOf22 rfl rfl rfl) ?_
  refine VD.read 7 rfl (by kernel_rfl) rfl rfl (fun w' hw' => r_load (v := .slice _ _ _) Try.isAgg22 rfl (hw'.at_ 0 0 rfl) rfl) ?_
  refine VD.pure 8 rfl (by kernel_rfl) rfl rfl (p_len Try.underlying22 rfl) ?_
  refine VD.pure 9 rfl (by kernel_rfl) rfl rfl (p_moveI rfl) ?_
  refine VD.pure 10 rfl (by kernel_rfl) rfl rfl (p_sub64 rfl rfl (by omega)) ?_
  refine VD.turn1 3 (by kernel_rfl) ?_
  refine VDT.val rfl rfl rfl (r_load (v := .int _ _) Try.isAgg3 rfl (hm.at_ 0 0 rfl) rfl) (Kept.one hm 1 rfl) ?_
  refine VD.pure 11 rfl (by kernel_rfl) rfl rfl (p_sub64 rfl rfl (by omega)) ?_
  refine VD.pure 12 rfl (by kernel_rfl) rfl rfl (p_nilCheck rfl) ?_
  refine VD.pure 13 rfl (by kernel_rfl) rfl rfl (p_field (fo := 1) Try.underlying63 rfl Try.sizeOf3 rfl rfl rfl) ?_
  refine VD.turn1 14 (by kernel_rfl) ?_
  refine VDT.store (cs' := #[.int .i64 room, .int .i64 (used - (f.n - k)), .map (some m)]) (v := .int _ _) Try.sizeOf3 rfl rfl rfl rfl rfl rfl hm 0 0 rfl (Nat.ble_eq.mp rfl) rfl (fun w' hm' => Kept.one hm' 1 rfl) ?_
  intro w hm
  refine VD.nil (by kernel_rfl) rfl ?_
  repeat (first | refine VC.seq ?_ | refine VC.block ?_ | refine VC.skip ?_)
  refine VC.region ?_
  refine VR.pure rfl rfl (p_moveP rfl) ?_
  refine VR.pure rfl rfl (p_moveP rfl) ?_
  refine VR.pure rfl rfl (p_moveP rfl) ?_
  refine VR.pure rfl rfl (p_nilCheck rfl) ?_
  refine VR.pure rfl rfl (p_field (fo := 0) Try.underlying68 rfl Try.sizeOf22 rfl rfl rfl) ?_
  refine VR.val rfl rfl (r_load (v := .slice _ _ _) Try.isAgg22 rfl (hm.at_ 1 0 rfl) rfl) ?_
  refine VR.pure rfl rfl (p_moveI rfl) ?_
  refine VR.pure rfl rfl (p_moveI rfl) ?_
  refine VR.pure rfl rfl (p_sliceHME Try.underlying22 Try.sizeOf5 rfl rfl rfl ⟨Nat.le_refl _, by omega⟩) ?_
  refine VR.pure rfl rfl (p_moveI rfl) ?_
  refine VR.pure rfl rfl (p_nilCheck rfl) ?_
  refine VR.pure rfl rfl (p_field (fo := 0) Try.underlying68 rfl Try.sizeOf22 rfl rfl rfl) ?_
  refine VR.store (cs' := #[.slice f.A k k, .int .i64 f.sy]) (v := .slice _ _ _) Try.sizeOf22 rfl rfl rfl rfl rfl hm 1 0 rfl (Nat.ble_eq.mp rfl) rfl ?_
  intro w hm
  refine VR.pure rfl rfl (p_nilCheck rfl) ?_
  refine VR.pure rfl rfl (p_field (fo := 1) Try.underlying68 rfl Try.sizeOf3 rfl rfl rfl) ?_
  refine VR.store (cs' := #[.slice f.A k k, .int .i64 k]) (v := .int _ _) Try.sizeOf3 rfl rfl rfl rfl rfl hm 1 0 rfl (Nat.ble_eq.mp rfl) rfl ?_
  intro w hm
  refine VR.nil ?_
  exact ⟨_, ResOf.r0 rfl, hm⟩

set_option maxHeartbeats 1000000 in
theorem cut_c {F : Env} {w : World} {g m : Nat} {D : Dk} {s : ByteArray} {n : Int} (hm : Mem F w (dkB g m D)) (hD : DkOk D) :
    Calls Try.prog 22 #[.pointer (some ⟨g, 0, none⟩), .string s, .int .i64 n] w (Ret (Step F g m (cutD D.abs s n))) := by
  have hroom := hD.room
  refine Calls.of_vc Try.func22 rfl Try.ntmps22 rfl ?_
  repeat (first | refine VC.seq ?_ | refine VC.block ?_ | refine VC.skip ?_)
  refine VC.region ?_
  refine VR.pure rfl rfl (p_assignI rfl) ?_
  refine VR.nil ?_
  rcases hit_or (fs := D.fs) s with ⟨i, f, hi, rfl⟩ | hno
  · have hf := hD.files f (List.mem_of_getElem? hi)
    have hfl := hf.len
    have hcut : cutD D.abs f.name n = if n < 0 ∨ (f.l.length : Int) < n then (2, D.abs) else (0, ⟨D.room, updA D.abs.fs f.name (cutF n.toNat)⟩) := by
      unfold cutD
      rw [hD.in_ hi]
      rfl
    rw [hcut]
    have hsum : (f.n : Int) ≤ D.used := by
      have p2 := sumL_perm ((perm_out hi).map Fl.abs)
      have e2 : sumL ((f :: D.fs.eraseIdx i).map Fl.abs) = (f.l.length : Int) + sumL ((D.fs.eraseIdx i).map Fl.abs) := rfl
      have := sumL_nonneg ((D.fs.eraseIdx i).map Fl.abs)
      have := hD.used
      omega
    repeat (first | refine VC.seq ?_ | refine VC.block ?_ | refine VC.skip ?_)
    refine VC.region ?_
    refine VR.pure rfl rfl (p_moveP rfl) ?_
    refine VR.pure rfl rfl (p_moveZ rfl) ?_
    refine VR.call rfl rfl (r_call2 Try.call42 rfl rfl) (find_hit_c hm hD hi) ?_
    rintro _ w ⟨rfl, hm⟩
    refine VR.pure rfl rfl (p_moveT rfl) ?_
    refine VR.pure rfl rfl (p_extract rfl rfl) ?_
    refine VR.pure rfl rfl (p_extract rfl rfl) ?_
    refine VR.pure rfl rfl (p_assignP rfl) ?_
    refine VR.pure rfl rfl (p_assignI rfl) ?_
    refine VR.nil ?_
    repeat (first | refine VC.seq ?_ | refine VC.block ?_ | refine VC.skip ?_)
    refine VC.region ?_
    refine VR.pure rfl rfl (p_moveI rfl) ?_
    refine VR.pure rfl rfl (p_ne rfl rfl) ?_
    refine VR.nil ?_
    repeat (first | refine VC.seq ?_ | refine VC.block ?_ | refine VC.skip ?_)
    refine VC.condF rfl (decide_eq_false (not_not_intro rfl)) ?_
    unfold dkB at hm
    replace hm := hm.openF hi
    repeat (first | refine VC.seq ?_ | refine VC.block ?_ | refine VC.skip ?_)
    refine VC.region ?_
    refine VR.pure rfl rfl (p_moveI rfl) ?_
    refine VR.pure rfl rfl (p_lt rfl rfl) ?_
    refine VR.pure rfl rfl (p_moveB rfl) ?_
    refine VR.splitD 20 rfl (fun h2 => ?_) (fun h2 => ?_)
    refine VR.pass rfl rfl ?_
    refine VR.pass rfl rfl ?_
    refine VR.pass rfl rfl ?_
    refine VR.pass rfl rfl ?_
    refine VR.pass rfl rfl ?_
    refine VR.pass rfl rfl ?_
    refine VR.pass rfl rfl ?_
    refine VR.pure rfl rfl (p_pickT rfl rfl) ?_
    refine VR.nil ?_
    rotate_left 1
    refine VR.pureG rfl rfl (p_moveI rfl) ?_
    refine VR.pureG rfl rfl (p_moveP rfl) ?_
    refine VR.pureG rfl rfl (p_nilCheck rfl) ?_
    refine VR.pureG rfl rfl (p_field (fo := 0) Try.underlying68 rfl Try.sizeOf22 rfl rfl rfl) ?_
    refine VR.valG rfl rfl (r_load (v := .slice _ _ _) Try.isAgg22 rfl (hm.at_ 2 0 rfl) rfl) ?_
    refine VR.pureG rfl rfl (p_len Try.underlying22 rfl) ?_
    refine VR.pureG rfl rfl (p_gt rfl rfl) ?_
    refine VR.pure rfl rfl (p_pickF rfl rfl) ?_
    refine VR.nil ?_
    rotate_left 1
    · repeat (first | refine VC.seq ?_ | refine VC.block ?_ | refine VC.skip ?_)
      refine VC.condT rfl rfl ?_
      repeat (first | refine VC.seq ?_ | refine VC.block ?_ | refine VC.skip ?_)
      refine VC.region ?_
      refine VR.pure rfl rfl (p_assignI rfl) ?_
      refine VR.nil ?_
      repeat (first | refine VC.seq ?_ | refine VC.block ?_ | refine VC.skip ?_)
      refine VC.ret ⟨_, ResOf.r1 (v := .int _ _) rfl rfl, ?_⟩
      rw [if_pos (.inl h2)]
      exact ⟨D, rfl, rfl, hD, hm.closeF0 hi⟩
    · repeat (first | refine VC.seq ?_ | refine VC.block ?_ | refine VC.skip ?_)
      refine VC.condD rfl (fun h3 => ?_) (fun h3 => ?_)
      · repeat (first | refine VC.seq ?_ | refine VC.block ?_ | refine VC.skip ?_)
        refine VC.region ?_
        refine VR.pure rfl rfl (p_assignI rfl) ?_
        refine VR.nil ?_
        repeat (first | refine VC.seq ?_ | refine VC.block ?_ | refine VC.skip ?_)
        refine VC.ret ⟨_, ResOf.r1 (v := .int _ _) rfl rfl, ?_⟩
        rw [if_pos (.inr (by omega))]
        exact ⟨D, rfl, rfl, hD, hm.closeF0 hi⟩
      · obtain ⟨k, rfl⟩ : ∃ k : Nat, n = k := ⟨n.toNat, by omega⟩
        have hk : k ≤ f.n := by omega
        rw [if_neg (by omega), Int.toNat_natCast]
        repeat (first | refine VC.seq ?_ | refine VC.block ?_ | refine VC.skip ?_)
        refine VC.region ?_
        refine VR.pure rfl rfl (p_moveP rfl) ?_
        refine VR.pure rfl rfl (p_moveP rfl) ?_
        refine VR.pure rfl rfl (p_moveI rfl) ?_
        replace hm := (hm.pull 2 rfl).swap
        refine VR.call rfl rfl (r_call3 Try.call44 rfl rfl rfl) (cutf_c hf hk (by omega) hm) ?_
        rintro v w hm
        refine VR.nil ?_
        repeat (first | refine VC.seq ?_ | refine VC.block ?_ | refine VC.skip ?_)
        refine VC.region ?_
        refine VR.pure rfl rfl (p_assignI rfl) ?_
        refine VR.nil ?_
        repeat (first | refine VC.seq ?_ | refine VC.block ?_ | refine VC.skip ?_)
        refine VC.ret ⟨_, ResOf.r1 (v := .int _ _) rfl rfl, ?_⟩
        obtain ⟨hD', hents⟩ := hD.turn hi (f' := { f with l := f.l.take k, sy := k, n := k, c := k }) rfl rfl rfl (hf.cut hk) (used := D.used - (f.n - k)) (by show _ = D.used - f.n + k; omega) (by omega)
        refine ⟨_, rfl, ?_, hD', ?_⟩
        · show Da.mk D.room ((D.fs.set i _).map Fl.abs) = _
          rw [List.map_set]
          exact congrArg _ (updA_at hD.apart (hD.hit hi) (cutF k)).symm
        · have h3 := Mem.closeF { f with l := f.l.take k, sy := k, n := k, c := k } ((hm.pull 2 rfl).pull 1 rfl) hi
          unfold dkB Dk.map Dk.ents
          rw [hents]
          exact h3
  · have hcut : cutD D.abs s n = (6, D.abs) := by
      unfold cutD
      rw [show inA D.abs.fs s = none from inA_none (Dk.out hno)]
    rw [hcut]
    repeat (first | refine VC.seq ?_ | refine VC.block ?_ | refine VC.skip ?_)
    refine VC.region ?_
    refine VR.pure rfl rfl (p_moveP rfl) ?_
    refine VR.pure rfl rfl (p_moveZ rfl) ?_
    refine VR.call rfl rfl (r_call2 Try.call42 rfl rfl) (find_miss_c hm hD hno) ?_
    rintro _ w ⟨rfl, hm⟩
    refine VR.pure rfl rfl (p_moveT rfl) ?_
    refine VR.pure rfl rfl (p_extract rfl rfl) ?_
    refine VR.pure rfl rfl (p_extract rfl rfl) ?_
    refine VR.pure rfl rfl (p_assignP rfl) ?_
    refine VR.pure rfl rfl (p_assignI rfl) ?_
    refine VR.nil ?_
    repeat (first | refine VC.seq ?_ | refine VC.block ?_ | refine VC.skip ?_)
    refine VC.region ?_
    refine VR.pure rfl rfl (p_moveI rfl) ?_
    refine VR.pure rfl rfl (p_ne rfl rfl) ?_
    refine VR.nil ?_
    repeat (first | refine VC.seq ?_ | refine VC.block ?_ | refine VC.skip ?_)
    refine VC.condT rfl (decide_eq_true (by omega)) ?_
    repeat (first | refine VC.seq ?_ | refine VC.block ?_ | refine VC.skip ?_)
    refine VC.region ?_
    refine VR.pure rfl rfl (p_moveI rfl) ?_
    refine VR.pure rfl rfl (p_assignI rfl) ?_
    refine VR.nil ?_
    repeat (first | refine VC.seq ?_ | refine VC.block ?_ | refine VC.skip ?_)
    refine VC.ret ⟨_, ResOf.r1 (v := .int _ _) rfl rfl, ?_⟩
    exact ⟨D, rfl, rfl, hD, hm⟩
end Go.Bd
