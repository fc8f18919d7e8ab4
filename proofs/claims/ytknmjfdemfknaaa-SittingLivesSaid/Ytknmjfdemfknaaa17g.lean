/- Contracts of layer 17: the document's book added to, ticked, told. Conditions: as each states. -/
import Derived.Test.Ytknmjfdemfknaaa17f
namespace Go.Bd
open Go.Proofs
set_option linter.unusedVariables false
set_option maxRecDepth 20000

/-- Sessions rise. -/
abbrev Asc (fs : List Sa) : Prop := fs.Pairwise fun x y => x.1 < y.1
theorem Asc.apart {fs : List Sa} (h : Asc fs) : Apart fs := List.Pairwise.imp (fun h => by omega) h
theorem removeB_fs (r : Ba) (s : Int) : (removeB r s).2 = ⟨r.now, delS r.fs s⟩ := by
  unfold removeB
  cases h : inS r.fs s with
  | some _ => rfl
  | none =>
    show r = _
    rw [delS_none fun f hf e => ?_]
    have := inS_iff (fs := r.fs) (s := s)
    rw [h] at this
    exact absurd (this.2 ⟨f, hf, e⟩) (by decide)
theorem putS_perm {fs : List Sa} (h : Apart fs) (x : Sa) : (putS fs x).Perm (delS fs x.1 ++ [x]) := by
  cases hx : inS fs x.1 with
  | none =>
    have hno : ∀ f ∈ fs, f.1 ≠ x.1 := fun f hf e => by
      have := inS_iff (fs := fs) (s := x.1)
      rw [hx] at this
      exact absurd (this.2 ⟨f, hf, e⟩) (by decide)
    rw [putS_none hno, delS_none hno]
  | some f =>
    obtain ⟨hf, hfx⟩ := inS_some hx
    obtain ⟨i, hi, rfl⟩ := List.mem_iff_getElem.1 hf
    have hi2 := List.getElem?_eq_getElem hi
    rw [putS_at h hi2 hfx.symm, ← hfx, delS_at h hi2]
    have h1 : (fs.set i x)[i]? = some x := by rw [List.getElem?_set, if_pos rfl, if_pos hi]
    refine (perm_out h1).trans ?_
    rw [List.eraseIdx_set_eq]
    exact List.perm_append_comm (l₁ := [x])
theorem asc_ins {fs : List Sa} {x : Sa} {k : Nat} (h : Asc fs) (hk : k ≤ fs.length) (hlt : ∀ j f, j < k → fs[j]? = some f → f.1 < x.1) (hgt : ∀ f, fs[k]? = some f → x.1 < f.1) : Asc (fs.take k ++ [x] ++ fs.drop k) := by
  have h1 : Asc (fs.take k ++ fs.drop k) := by rw [List.take_append_drop]; exact h
  obtain ⟨ha, hb, hab⟩ := List.pairwise_append.1 h1
  have hd : ∀ f ∈ fs.drop k, x.1 < f.1 := fun f hf => by
    rcases Nat.lt_or_eq_of_le hk with hk' | rfl
    · rw [List.drop_eq_getElem_cons hk'] at hf hb
      have h0 := hgt _ (List.getElem?_eq_getElem hk')
      rcases List.mem_cons.1 hf with rfl | hf
      · exact h0
      · have := (List.pairwise_cons.1 hb).1 f hf
        omega
    · rw [List.drop_length] at hf
      exact absurd hf List.not_mem_nil
  have ht : ∀ f ∈ fs.take k, f.1 < x.1 := fun f hf => by
    obtain ⟨j, hj, rfl⟩ := List.mem_iff_getElem.1 hf
    rw [List.length_take] at hj
    refine hlt j _ (by omega) ?_
    rw [List.getElem_take, List.getElem?_eq_getElem]
  rw [List.append_assoc]
  refine List.pairwise_append.2 ⟨ha, List.pairwise_cons.2 ⟨hd, hb⟩, fun a hma b hmb => ?_⟩
  rcases List.mem_cons.1 hmb with rfl | hmb
  · exact ht a hma
  · exact hab a hma b hmb

section
variable {F : Env} {w : World} {Ls : List Blks} {g : Nat} {r : Ba} {s t : Int}
set_option maxHeartbeats 4000000 in
theorem radd_c (hm : RMem F w g r Ls) (hasc : Asc r.fs) (hl : r.fs.length ≤ 1000000) (hn : 0 ≤ r.now ∧ r.now ≤ 1152921504606846976) :
    Calls Try.prog 25 #[.pointer (some ⟨g, 0, none⟩), .int .i64 s, .int .i64 t] w (Ret fun v w' => ∃ r', v = .int .i64 (addB r s t).1 ∧ r'.now = r.now ∧ r'.fs.Perm (addB r s t).2.fs ∧ Asc r'.fs ∧ RMem F w' g r' Ls) := by
  refine Calls.of_vc Try.func25 rfl Try.ntmps25 rfl ?_
  repeat (first | refine VC.seq ?_ | refine VC.block ?_ | refine VC.skip ?_)
  refine VC.region ?_
  refine VR.pure rfl rfl (p_assignI rfl) ?_
  refine VR.nil ?_
  repeat (first | refine VC.seq ?_ | refine VC.block ?_ | refine VC.skip ?_)
  refine VC.region ?_
  refine VR.pure rfl rfl (p_moveI rfl) ?_
  refine VR.pure rfl rfl (p_lt rfl rfl) ?_
  refine VR.pure rfl rfl (p_moveB rfl) ?_
  refine VR.splitD 11 rfl (fun h2 => ?_) (fun h2 => ?_)
  refine VR.pass rfl rfl ?_
  refine VR.pass rfl rfl ?_
  refine VR.pure rfl rfl (p_pickT rfl rfl) ?_
  refine VR.pure rfl rfl (p_moveB rfl) ?_
  refine VR.pass rfl rfl ?_
  refine VR.pass rfl rfl ?_
  refine VR.pure rfl rfl (p_pickT rfl rfl) ?_
  refine VR.nil ?_
  rotate_left 1
  refine VR.pureG rfl rfl (p_moveI rfl) ?_
  refine VR.pureG rfl rfl (p_lt rfl rfl) ?_
  refine VR.pure rfl rfl (p_pickF rfl rfl) ?_
  refine VR.pure rfl rfl (p_moveB rfl) ?_
  refine VR.splitD 15 rfl (fun h6 => ?_) (fun h6 => ?_)
  refine VR.pass rfl rfl ?_
  refine VR.pass rfl rfl ?_
  refine VR.pure rfl rfl (p_pickT rfl rfl) ?_
  refine VR.nil ?_
  rotate_left 1
  refine VR.pureG rfl rfl (p_moveI rfl) ?_
  refine VR.pureG rfl rfl (p_gt rfl rfl) ?_
  refine VR.pure rfl rfl (p_pickF rfl rfl) ?_
  refine VR.nil ?_
  rotate_left 1
  · repeat (first | refine VC.seq ?_ | refine VC.block ?_ | refine VC.skip ?_)
    refine VC.condT rfl rfl ?_
    repeat (first | refine VC.seq ?_ | refine VC.block ?_ | refine VC.skip ?_)
    refine VC.region ?_
    refine VR.pure rfl rfl (p_assignI rfl) ?_
    refine VR.nil ?_
    repeat (first | refine VC.seq ?_ | refine VC.block ?_ | refine VC.skip ?_)
    refine VC.ret ⟨_, ResOf.r1 (v := .int _ _) rfl rfl, ?_⟩
    unfold addB
    rw [if_pos (by omega)]
    exact ⟨r, rfl, rfl, List.Perm.refl _, hasc, hm⟩
  · repeat (first | refine VC.seq ?_ | refine VC.block ?_ | refine VC.skip ?_)
    refine VC.condT rfl rfl ?_
    repeat (first | refine VC.seq ?_ | refine VC.block ?_ | refine VC.skip ?_)
    refine VC.region ?_
    refine VR.pure rfl rfl (p_assignI rfl) ?_
    refine VR.nil ?_
    repeat (first | refine VC.seq ?_ | refine VC.block ?_ | refine VC.skip ?_)
    refine VC.ret ⟨_, ResOf.r1 (v := .int _ _) rfl rfl, ?_⟩
    unfold addB
    rw [if_pos (by omega)]
    exact ⟨r, rfl, rfl, List.Perm.refl _, hasc, hm⟩
  · repeat (first | refine VC.seq ?_ | refine VC.block ?_ | refine VC.skip ?_)
    refine VC.condD rfl (fun h8 => ?_) (fun h8 => ?_)
    · repeat (first | refine VC.seq ?_ | refine VC.block ?_ | refine VC.skip ?_)
      refine VC.region ?_
      refine VR.pure rfl rfl (p_assignI rfl) ?_
      refine VR.nil ?_
      repeat (first | refine VC.seq ?_ | refine VC.block ?_ | refine VC.skip ?_)
      refine VC.ret ⟨_, ResOf.r1 (v := .int _ _) rfl rfl, ?_⟩
      unfold addB
      rw [if_pos (by omega)]
      exact ⟨r, rfl, rfl, List.Perm.refl _, hasc, hm⟩
    · have ht : 1 ≤ t ∧ t ≤ 1000 := by omega
      repeat (first | refine VC.seq ?_ | refine VC.block ?_ | refine VC.skip ?_)
      refine VC.region ?_
      refine VR.pure rfl rfl (p_moveP rfl) ?_
      refine VR.pure rfl rfl (p_moveI rfl) ?_
      refine VR.call rfl rfl (r_call2 Try.call27 rfl rfl) (rremove_c hm hasc.apart hl) ?_
      rintro _ w ⟨rfl, hm⟩
      refine VR.nil ?_
      rw [removeB_fs] at hm
      have hadd : addB r s t = (0, ⟨r.now, putS r.fs (s, t, endOf r.now t)⟩) := by
        unfold addB
        rw [if_neg (by omega)]
      have hasc1 : Asc (delS r.fs s) := hasc.sublist List.filter_sublist
      have hne : ∀ f ∈ delS r.fs s, f.1 ≠ s := fun f hf => of_decide_eq_true (List.mem_filter.1 hf).2
      have hl1 : (delS r.fs s).length ≤ 1000000 := Nat.le_trans (List.length_filter_le _ _) hl
      have hperm := putS_perm hasc.apart (s, t, endOf r.now t)
      rw [hadd]
      replace hperm : (putS r.fs (s, t, endOf r.now t)).Perm (delS r.fs s ++ [(s, t, endOf r.now t)]) := hperm
      generalize delS r.fs s = fs at hm hasc1 hne hl1 hperm
      obtain ⟨A, c, L, ho, hm⟩ := hm
      obtain ⟨G, hu, hm, hL⟩ := hm.swap.freeze
      have hr := ho.row hL
      have hnc := ho.le
      unfold rbook at hm
      dsimp only at hr hnc hm
      clear ho hL
      repeat (first | refine VC.seq ?_ | refine VC.block ?_ | refine VC.skip ?_)
      refine VC.region ?_
      refine VR.pure rfl rfl (p_assignI rfl) ?_
      refine VR.nil ?_
      repeat (first | refine VC.seq ?_ | refine VC.block ?_ | refine VC.skip ?_)
      refine VC.loop (σ := Nat) (fun k => [(0, .pointer (some ⟨g, 0, none⟩)), (1, .int .i64 s), (2, .int .i64 t), (7, .int .i64 k)])
        (fun k w => Mem G w ([(g, .cells #[.int .i64 r.now, .slice A fs.length c] 55 (0, 0))] :: Ls) ∧ k ≤ fs.length ∧ ∀ j f, j < k → fs[j]? = some f → f.1 < s) (fun k => fs.length - k) 0 ⟨rfl, rfl, rfl, rfl, trivial⟩ ⟨hm, by omega, by omega⟩ ?_
      clear hm
      rintro k A1 w ⟨hm, hk, hlt⟩
      repeat (first | refine VC.seq ?_ | refine VC.block ?_ | refine VC.skip ?_)
      refine VC.meet (σ := Bool) (fun q => [(0, .pointer (some ⟨g, 0, none⟩)), (1, .int .i64 s), (2, .int .i64 t), (7, .int .i64 k), (40, .bool q)])
        (fun q w => Mem G w ([(g, .cells #[.int .i64 r.now, .slice A fs.length c] 55 (0, 0))] :: Ls) ∧ if q then ∃ f, fs[k]? = some f ∧ f.1 < s else ∀ f, fs[k]? = some f → s < f.1) ?_ ?_
      · by_cases hk' : k < fs.length
        · obtain ⟨f, hf, hfm⟩ := get_of (xs := fs) (k := k) hk'
          obtain ⟨b, off, blk, T, fr, rfl, hb, hc⟩ := hr.elem sc_len (by decide) (by omega)
          repeat (first | refine VC.seq ?_ | refine VC.block ?_ | refine VC.skip ?_)
          refine VC.region ?_
          refine VR.pure rfl rfl (p_moveI rfl) ?_
          refine VR.pure rfl rfl (p_moveP rfl) ?_
          refine VR.pure rfl rfl (p_nilCheck rfl) ?_
          refine VR.pure rfl rfl (p_field (fo := 1) Try.underlying55 rfl Try.sizeOf53 rfl rfl rfl) ?_
          refine VR.val rfl rfl (r_load (v := .slice _ _ _) Try.isAgg53 rfl (hm.at_ 0 0 rfl) rfl) ?_
          refine VR.pure rfl rfl (p_len Try.underlying53 rfl) ?_
          refine VR.pure rfl rfl (p_lt rfl rfl) ?_
          refine VR.pure rfl rfl (p_moveB rfl) ?_
          refine VR.knownT 29 rfl (decide_eq_true (by omega)) ?_
          refine VR.pureG rfl rfl (p_moveP rfl) ?_
          refine VR.pureG rfl rfl (p_nilCheck rfl) ?_
          refine VR.pureG rfl rfl (p_field (fo := 1) Try.underlying55 rfl Try.sizeOf53 rfl rfl rfl) ?_
          refine VR.valG rfl rfl (r_load (v := .slice _ _ _) Try.isAgg53 rfl (hm.at_ 0 0 rfl) rfl) ?_
          refine VR.pureG rfl rfl (p_moveI rfl) ?_
          refine VR.pureG rfl rfl (p_idxN Try.underlying53 Try.sizeOf57 rfl rfl hk') ?_
          refine VR.pureG rfl rfl (p_field (fo := 0) Try.underlying57 rfl Try.sizeOf2 rfl rfl rfl) ?_
          refine VR.valG rfl rfl (r_load (v := .int _ _) Try.isAgg2 rfl (hm.fix _ _ hb) (hc k f hf 0 (by decide))) ?_
          refine VR.pureG rfl rfl (p_moveI rfl) ?_
          refine VR.pureG rfl rfl (p_lt rfl rfl) ?_
          refine VR.pure rfl rfl (p_pickT rfl rfl) ?_
          refine VR.nil ?_
          refine ⟨decide (f.1 < s), ⟨rfl, rfl, rfl, rfl, rfl, trivial⟩, hm, ?_⟩
          by_cases h : f.1 < s
          · rw [if_pos (decide_eq_true h)]
            exact ⟨f, hf, h⟩
          · rw [if_neg (by simpa using h)]
            intro f' hf'
            rw [hf] at hf'
            obtain rfl := Option.some.inj hf'
            have := hne f hfm
            omega
        · repeat (first | refine VC.seq ?_ | refine VC.block ?_ | refine VC.skip ?_)
          refine VC.region ?_
          refine VR.pure rfl rfl (p_moveI rfl) ?_
          refine VR.pure rfl rfl (p_moveP rfl) ?_
          refine VR.pure rfl rfl (p_nilCheck rfl) ?_
          refine VR.pure rfl rfl (p_field (fo := 1) Try.underlying55 rfl Try.sizeOf53 rfl rfl rfl) ?_
          refine VR.val rfl rfl (r_load (v := .slice _ _ _) Try.isAgg53 rfl (hm.at_ 0 0 rfl) rfl) ?_
          refine VR.pure rfl rfl (p_len Try.underlying53 rfl) ?_
          refine VR.pure rfl rfl (p_lt rfl rfl) ?_
          refine VR.pure rfl rfl (p_moveB rfl) ?_
          refine VR.knownF 29 rfl (decide_eq_false (by omega)) ?_
          refine VR.pass rfl rfl ?_
          refine VR.pass rfl rfl ?_
          refine VR.pass rfl rfl ?_
          refine VR.pass rfl rfl ?_
          refine VR.pass rfl rfl ?_
          refine VR.pass rfl rfl ?_
          refine VR.pass rfl rfl ?_
          refine VR.pass rfl rfl ?_
          refine VR.pass rfl rfl ?_
          refine VR.pass rfl rfl ?_
          refine VR.pure rfl rfl (p_pickF rfl rfl) ?_
          refine VR.nil ?_
          refine ⟨false, ⟨rfl, rfl, rfl, rfl, rfl, trivial⟩, hm, ?_⟩
          rw [if_neg (by decide)]
          intro f hf
          have := (List.getElem?_eq_some_iff.1 hf).1
          omega
      clear hm
      rintro q A2 w ⟨hm, hq⟩
      cases q with
      | true =>
        rw [if_pos rfl] at hq
        obtain ⟨f, hf, hfs⟩ := hq
        have hk' := (List.getElem?_eq_some_iff.1 hf).1
        repeat (first | refine VC.seq ?_ | refine VC.block ?_ | refine VC.skip ?_)
        refine VC.condT rfl rfl ?_
        repeat (first | refine VC.seq ?_ | refine VC.block ?_ | refine VC.skip ?_)
        refine VC.region ?_
        refine VR.pure rfl rfl (p_moveI rfl) ?_
        refine VR.pure rfl rfl (p_add64 rfl rfl (by omega)) ?_
        refine VR.pure rfl rfl (p_assignI rfl) ?_
        refine VR.nil ?_
        refine ⟨k + 1, ⟨rfl, rfl, rfl, rfl, trivial⟩, ⟨hm, by omega, fun j f' hj hf' => ?_⟩, by omega⟩
        rcases Nat.lt_or_eq_of_le (Nat.le_of_lt_succ hj) with hj | rfl
        · exact hlt j f' hj hf'
        · rw [hf] at hf'
          obtain rfl := Option.some.inj hf'
          exact hfs
      | false =>
        rw [if_neg (by decide)] at hq
        repeat (first | refine VC.seq ?_ | refine VC.block ?_ | refine VC.skip ?_)
        refine VC.condF rfl rfl ?_
        repeat (first | refine VC.seq ?_ | refine VC.block ?_ | refine VC.skip ?_)
        refine VC.exit ?_
        have h1 := Row.heads sc_len hr rfl hk
        obtain ⟨A2, hA2, hr2⟩ := hr.dropE (l := k) (c := c) hk hnc.1
        have hr2' : Row G.heap A2 ((fs.length - k) * 3) (rcells (fs.drop k)) := by
          have e : (rcells fs).drop (k * 3) = rcells (fs.drop k) := by
            conv => lhs; rw [← List.take_append_drop k fs]
            rw [rcells_app, List.drop_left' (by rw [rcells_len, List.length_take, Nat.min_eq_left hk])]
          rwa [e] at hr2
        repeat (first | refine VC.seq ?_ | refine VC.block ?_ | refine VC.skip ?_)
        refine VC.region ?_
        refine VR.pure rfl rfl (p_assignL rfl) ?_
        refine VR.nil ?_
        repeat (first | refine VC.seq ?_ | refine VC.block ?_ | refine VC.skip ?_)
        refine VC.region ?_
        refine VR.pure rfl rfl (p_moveL rfl) ?_
        refine VR.pure rfl rfl (p_moveP rfl) ?_
        refine VR.pure rfl rfl (p_nilCheck rfl) ?_
        refine VR.pure rfl rfl (p_field (fo := 1) Try.underlying55 rfl Try.sizeOf53 rfl rfl rfl) ?_
        refine VR.val rfl rfl (r_load (v := .slice _ _ _) Try.isAgg53 rfl (hm.at_ 0 0 rfl) rfl) ?_
        refine VR.pure rfl rfl (p_moveI rfl) ?_
        refine VR.pure rfl rfl (p_sliceHN (h := k) Try.underlying53 Try.sizeOf57 rfl rfl (by omega)) ?_
        replace hm := hm.nil_
        refine VR.append (s := 3) (bytes := 24) Try.underlying53 inf57 rfl rfl rfl rfl rfl rfl rfl rfl rfl hm (OwnS.nil _ _) (h1.mono hm.fix) (rcells_one _) (Nat.zero_add k) ⟨by unfold maxLen; omega, by omega⟩ ?_
        intro A7 c7 w L7 ho7 hm
        refine VR.pure rfl rfl (p_assignL rfl) ?_
        refine VR.nil ?_
        repeat (first | refine VC.seq ?_ | refine VC.block ?_ | refine VC.skip ?_)
        refine VC.region ?_
        refine VR.pure rfl rfl (p_moveL rfl) ?_
        refine VR.pure rfl rfl (p_moveI rfl) ?_
        refine VR.pure rfl rfl (p_moveI rfl) ?_
        refine VR.pure rfl rfl (p_moveP rfl) ?_
        refine VR.pure rfl rfl (p_moveI rfl) ?_
        replace hm := hm.swap
        refine VR.call rfl rfl (r_call2 Try.call33 rfl rfl) (rend_c hm hn ht) ?_
        rintro _ w ⟨rfl, hm⟩
        replace hm := hm.swap
        refine VR.pure rfl rfl (p_build (vs := [(0, .int _ _), (1, .int _ _), (2, .int _ _)]) bld57_0_1_2 rfl) ?_
        refine VR.new hm rfl rfl (n_buildSlice (vs := [.agg _]) Try.underlying53 inf57 rfl rfl rfl rfl rfl rfl) ?_
        intro b58 w hm
        replace hm := hm.swap
        refine VR.append (s := 3) (bytes := 24) Try.underlying53 inf57 rfl rfl rfl rfl rfl rfl rfl rfl rfl hm ho7 (Row.lit (cs := sc (s, t, endOf r.now t)) (hm.at_ 1 0 rfl)) (sc_one _) rfl ⟨by unfold maxLen; omega, by omega⟩ ?_
        intro A8 c8 w L8 ho8 hm
        refine VR.pure rfl rfl (p_assignL rfl) ?_
        refine VR.nil ?_
        repeat (first | refine VC.seq ?_ | refine VC.block ?_ | refine VC.skip ?_)
        refine VC.region ?_
        refine VR.pure rfl rfl (p_moveP rfl) ?_
        refine VR.pure rfl rfl (p_moveL rfl) ?_
        refine VR.pure rfl rfl (p_moveP rfl) ?_
        refine VR.pure rfl rfl (p_nilCheck rfl) ?_
        refine VR.pure rfl rfl (p_field (fo := 1) Try.underlying55 rfl Try.sizeOf53 rfl rfl rfl) ?_
        replace hm := hm.pop2
        refine VR.val rfl rfl (r_load (v := .slice _ _ _) Try.isAgg53 rfl (hm.at_ 1 0 rfl) rfl) ?_
        refine VR.pure rfl rfl (p_moveI rfl) ?_
        refine VR.pure rfl rfl (p_sliceLE Try.underlying53 Try.sizeOf57 rfl rfl (by omega) hA2 rfl rfl) ?_
        refine VR.append (s := 3) (bytes := 24) Try.underlying53 inf57 rfl rfl rfl rfl rfl rfl rfl rfl rfl hm ho8 (hr2'.mono hm.fix) (rcells_one _) rfl ⟨by unfold maxLen; omega, by omega⟩ ?_
        intro A9 c9 w L9 ho9 hm
        refine VR.pure rfl rfl (p_nilCheck rfl) ?_
        refine VR.pure rfl rfl (p_field (fo := 1) Try.underlying55 rfl Try.sizeOf53 rfl rfl rfl) ?_
        refine VR.store (cs' := #[.int .i64 r.now, .slice A9 (k + 1 + (fs.length - k)) c9]) (v := .slice _ _ _) Try.sizeOf53 rfl rfl rfl rfl rfl hm 1 0 rfl (Nat.ble_eq.mp rfl) rfl ?_
        intro w hm
        refine VR.nil ?_
        repeat (first | refine VC.seq ?_ | refine VC.block ?_ | refine VC.skip ?_)
        refine VC.region ?_
        refine VR.pure rfl rfl (p_assignI rfl) ?_
        refine VR.nil ?_
        repeat (first | refine VC.seq ?_ | refine VC.block ?_ | refine VC.skip ?_)
        refine VC.ret ⟨_, ResOf.r1 (v := .int _ _) rfl rfl, ?_⟩
        have hlen : (fs.take k ++ [(s, t, endOf r.now t)] ++ fs.drop k).length = k + 1 + (fs.length - k) := by
          rw [List.length_append, List.length_append, List.length_take, List.length_drop, Nat.min_eq_left hk]
          rfl
        refine ⟨⟨r.now, fs.take k ++ [(s, t, endOf r.now t)] ++ fs.drop k⟩, rfl, rfl, ?_, asc_ins (x := (s, t, endOf r.now t)) hasc1 hk hlt hq, A9, c9, L9, ?_, ?_⟩
        · refine List.Perm.trans ?_ hperm.symm
          rw [List.append_assoc]
          refine (List.perm_append_comm.append_left _).trans ?_
          rw [← List.append_assoc, List.take_append_drop]
        · show OwnS _ 3 A9 (fs.take k ++ [(s, t, endOf r.now t)] ++ fs.drop k).length c9 (rcells (fs.take k ++ [(s, t, endOf r.now t)] ++ fs.drop k)) L9
          rw [hlen, rcells_app, rcells_app]
          exact ho9
        · unfold rbook
          show Mem F w ([(g, .cells #[.int .i64 r.now, .slice A9 (fs.take k ++ [(s, t, endOf r.now t)] ++ fs.drop k).length c9] 55 (0, 0))] :: L9 :: Ls)
          rw [hlen]
          exact hm.swap.shrink hu
end
end Go.Bd
