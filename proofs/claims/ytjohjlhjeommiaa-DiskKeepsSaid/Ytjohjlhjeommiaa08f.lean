/- Contracts of layer 8: copy. Conditions: as each states. -/
import Derived.Test.Ytjohjlhjeommiaa08e
namespace Go.Bd
open Go.Proofs
set_option linter.unusedVariables false
set_option maxRecDepth 20000

theorem Mem.closeNewP {F : Env} {w : World} {Ps : List Blks} {fs : List Fl} (f : Fl) (hm : Mem F w (Ps ++ ([(f.blk, f.obj)] :: f.L :: fs.map Fl.mem))) : Mem F w (Ps ++ (fs ++ [f]).map Fl.mem) := hm.permF (by
  simp only [List.flatten_cons, List.map_append, List.flatten_append, List.map_cons, List.map_nil, List.flatten_nil, List.append_nil]
  refine (List.Perm.refl _).append ?_
  show (([(f.blk, f.obj)] ++ (f.L ++ (fs.map Fl.mem).flatten))).Perm ((fs.map Fl.mem).flatten ++ f.mem)
  rw [← List.append_assoc]
  exact List.perm_append_comm)
def seenFs (fs : List Fl) (seen : Array Nat) : List Fl := fs.filter fun f => decide (f.born ∈ seen.toList)
theorem seen_push {fs : List Fl} {seen : Array Nat} {i : Nat} {f : Fl} (hi : fs[i]? = some f) (hn : (fs.map (·.born)).Nodup) (hf : f.born ∉ seen.toList) : (seenFs fs (seen.push f.born)).Perm (f :: seenFs fs seen) := by
  have hp := perm_out hi
  have hnd : ((f :: fs.eraseIdx i).map (·.born)).Nodup := (hp.map (·.born)).nodup_iff.1 hn
  rw [List.map_cons, List.nodup_cons] at hnd
  have h1 : (seenFs fs (seen.push f.born)).Perm (seenFs (f :: fs.eraseIdx i) (seen.push f.born)) := hp.filter _
  have h2 : (seenFs fs seen).Perm (seenFs (f :: fs.eraseIdx i) seen) := hp.filter _
  have e1 : seenFs (f :: fs.eraseIdx i) (seen.push f.born) = f :: seenFs (fs.eraseIdx i) (seen.push f.born) := List.filter_cons_of_pos (by simp)
  have e2 : seenFs (f :: fs.eraseIdx i) seen = seenFs (fs.eraseIdx i) seen := List.filter_cons_of_neg (by simpa using hf)
  have e3 : seenFs (fs.eraseIdx i) (seen.push f.born) = seenFs (fs.eraseIdx i) seen := List.filter_congr fun x hx => by
    have hne : x.born ≠ f.born := fun e => hnd.1 (List.mem_map.2 ⟨x, hx, e⟩)
    have : x.born ∈ (seen.push f.born).toList ↔ x.born ∈ seen.toList := by simp [hne]
    exact decide_eq_decide.2 this
  rw [e1, e3] at h1
  rw [e2] at h2
  exact h1.trans (h2.symm.cons f)
theorem DkOk.borns {D : Dk} (h : DkOk D) : (D.fs.map (·.born)).Nodup := by
  have := h.ents.nodup
  rwa [List.map_map] at this

set_option maxHeartbeats 4000000 in
theorem copy_c {F : Env} {w : World} {g m : Nat} {D : Dk} (hm : Mem F w (dkB g m D)) (hD : DkOk D) :
    Calls Try.prog 14 #[.pointer (some ⟨g, 0, none⟩)] w (Ret fun v w' => ∃ g2 m2 D2, v = .pointer (some ⟨g2, 0, none⟩) ∧ D2.room = D.room ∧ (D2.fs.map Fl.abs).Perm (D.fs.map Fl.abs) ∧ DkOk D2 ∧ Mem F w' (dkB g2 m2 D2 ++ dkB g m D)) := by
  refine Calls.of_vc Try.func14 rfl Try.ntmps14 rfl ?_
  repeat (first | refine VC.seq ?_ | refine VC.block ?_ | refine VC.skip ?_)
  refine VC.region ?_
  refine VR.pure rfl rfl (p_assignP rfl) ?_
  refine VR.nil ?_
  repeat (first | refine VC.seq ?_ | refine VC.block ?_ | refine VC.skip ?_)
  refine VC.region ?_
  refine VR.pure rfl rfl (p_moveP rfl) ?_
  refine VR.call rfl rfl (r_call1 Try.call40 rfl) (made_c hm) ?_
  rintro _ w ⟨rfl, hm⟩
  refine VR.pure rfl rfl (p_not rfl) ?_
  refine VR.nil ?_
  repeat (first | refine VC.seq ?_ | refine VC.block ?_ | refine VC.skip ?_)
  refine VC.condF rfl rfl ?_
  obtain ⟨K, huK, hm1, hKl, hback⟩ := Mem.aside (show Mem F w (dkB g m D) from hm)
  have hbg : K.heap g = some (D.obj m) := hKl _ (.head _) _ (.head _)
  have hbm : K.heap m = some D.map := hKl _ (.tail _ (.head _)) _ (.head _)
  have hfl : ∀ f ∈ D.fs, K.heap f.blk = some f.obj ∧ BRow K.heap f.A f.n f.l := fun f hf => by
    have h1 : ∀ p ∈ f.mem, K.heap p.1 = some p.2 := hKl _ (.tail _ (.tail _ (List.mem_map.2 ⟨f, hf, rfl⟩)))
    refine ⟨h1 _ (.head _), ?_⟩
    have h2 := (hD.files f hf).own.row (fun p hp => h1 p (.tail _ hp))
    rwa [Nat.mul_one] at h2
  clear hKl hm
  repeat (first | refine VC.seq ?_ | refine VC.block ?_ | refine VC.skip ?_)
  refine VC.loud (Kept K []) [8, 10] rfl (by kernel_rfl) (Kept.of0 hm1.drew) ?_
  replace hm1 := hm1.drew
  refine VL.pure rfl rfl rfl (p_moveP rfl) ?_
  refine VL.pure rfl rfl rfl (p_nilCheck rfl) ?_
  refine VL.pure rfl rfl rfl (p_field (fo := 0) Try.underlying63 rfl Try.sizeOf3 rfl rfl rfl) ?_
  refine VL.read rfl rfl rfl (fun w' hw' => r_load (v := .int _ _) Try.isAgg3 rfl (hw'.fix _ _ hbg) rfl) ?_
  refine VL.pure rfl rfl rfl (p_moveP rfl) ?_
  refine VL.pure rfl rfl rfl (p_nilCheck rfl) ?_
  refine VL.pure rfl rfl rfl (p_field (fo := 1) Try.underlying63 rfl Try.sizeOf3 rfl rfl rfl) ?_
  refine VL.read rfl rfl rfl (fun w' hw' => r_load (v := .int _ _) Try.isAgg3 rfl (hw'.fix _ _ hbg) rfl) ?_
  refine VL.new hm1 rfl rfl rfl (n_makeMap) (fun b' w' hm' => Kept.of0 hm') ?_
  intro m2 w hm1
  refine VL.pure rfl rfl rfl (p_build (vs := [(0, .int _ _), (1, .int _ _), (2, .map _)]) bld63_0_1_2 rfl) ?_
  refine VL.new hm1 rfl rfl rfl (n_boxG rfl) (fun b' w' hm' => Kept.of0 hm') ?_
  intro g2 w hm1
  refine VL.pure rfl rfl rfl (p_assignP rfl) ?_
  refine VL.nil ?_
  repeat (first | refine VC.seq ?_ | refine VC.block ?_ | refine VC.skip ?_)
  refine VC.region ?_
  refine VR.pure rfl rfl (p_moveP rfl) ?_
  refine VR.pure rfl rfl (p_nilCheck rfl) ?_
  refine VR.pure rfl rfl (p_field (fo := 2) Try.underlying63 rfl Try.sizeOf61 rfl rfl rfl) ?_
  refine VR.val rfl rfl (r_load (v := .map _) Try.isAgg61 rfl (hm1.fix _ _ hbg) rfl) ?_
  refine VR.rangeMap Try.underlying61 rfl rfl rfl hm1 (hm1.fix _ _ hbm) ?_
  intro r w hm1
  refine VR.nil ?_
  repeat (first | refine VC.seq ?_ | refine VC.block ?_ | refine VC.skip ?_)
  refine VC.loop (σ := Array Nat × Nat × List Fl) (fun s => [(3, .pointer (some ⟨g2, 0, none⟩)), (24, .pointer (some ⟨r, 0, none⟩))])
    (fun s w => Mem K w ([(r, .mapIter (some m) D.clock s.1 D.clock)] :: [(g2, .cells #[.int .i64 D.room, .int .i64 D.used, .map (some m2)] 63 (0, 0))] :: [(m2, .map (s.2.2.map Fl.ent).toArray s.2.1)] :: s.2.2.map Fl.mem)
      ∧ Ents .string (s.2.2.map Fl.ent) s.2.1 ∧ (∀ f ∈ s.2.2, FlOk f ∧ f.name.size ≤ 30) ∧ (s.2.2.map Fl.abs).Perm ((seenFs D.fs s.1).map Fl.abs))
    (fun s => unseen (D.ents.map (·.born)) s.1) (#[], 0, []) ⟨rfl, rfl, trivial⟩ ⟨hm1, Ents.nil _ _, by simp, by
      rw [show seenFs D.fs #[] = [] from List.filter_eq_nil_iff.2 (by simp)]⟩ ?_
  clear hm1
  rintro ⟨seen, ck, fs⟩ A' w ⟨hm1, hE, hok, hperm⟩
  dsimp only at hm1 hE hok hperm ⊢
  by_cases hall : ∀ x ∈ D.ents, x.born ∈ seen.toList
  · repeat (first | refine VC.seq ?_ | refine VC.block ?_ | refine VC.skip ?_)
    refine VC.region ?_
    refine VR.nextEnd rfl rfl rfl hm1 0 0 rfl (hm1.fix _ _ hbm) hD.ents.born (Nat.le_refl _) hall ?_
    refine VR.pure rfl rfl (p_extract rfl rfl) ?_
    refine VR.nil ?_
    repeat (first | refine VC.seq ?_ | refine VC.block ?_ | refine VC.skip ?_)
    refine VC.condF rfl rfl ?_
    repeat (first | refine VC.seq ?_ | refine VC.block ?_ | refine VC.skip ?_)
    refine VC.exit ?_
    repeat (first | refine VC.seq ?_ | refine VC.block ?_ | refine VC.skip ?_)
    refine VC.region ?_
    refine VR.pure rfl rfl (p_moveP rfl) ?_
    refine VR.pure rfl rfl (p_assignP rfl) ?_
    refine VR.nil ?_
    repeat (first | refine VC.seq ?_ | refine VC.block ?_ | refine VC.skip ?_)
    refine VC.ret ⟨_, ResOf.r1 (v := .pointer _) rfl rfl, ?_⟩
    have hse : seenFs D.fs seen = D.fs := List.filter_eq_self.2 fun f hf => decide_eq_true (hall f.ent (List.mem_map.2 ⟨f, hf, rfl⟩))
    rw [hse] at hperm
    refine ⟨g2, m2, ⟨D.room, D.used, ck, fs⟩, rfl, rfl, hperm, ⟨hE, fun f hf => (hok f hf).1, ?_, hD.room, fun f hf => (hok f hf).2⟩, hback (As := dkB g2 m2 ⟨D.room, D.used, ck, fs⟩) hm1.pop⟩
    show D.used = sumL (fs.map Fl.abs)
    rw [sumL_perm hperm]
    exact hD.used
  · repeat (first | refine VC.seq ?_ | refine VC.block ?_ | refine VC.skip ?_)
    refine VC.region ?_
    refine VR.nextElem rfl rfl rfl hm1 0 0 rfl (hm1.fix _ _ hbm) hD.ents.born (Nat.le_refl _) hall ?_
    intro e he hn w hm1
    refine VR.pure rfl rfl (p_extract rfl rfl) ?_
    refine VR.nil ?_
    repeat (first | refine VC.seq ?_ | refine VC.block ?_ | refine VC.skip ?_)
    refine VC.condT rfl rfl ?_
    obtain ⟨f, hfm, rfl⟩ := List.mem_map.1 he
    obtain ⟨i, hi', hfi⟩ := List.mem_iff_getElem.1 hfm
    have hi : D.fs[i]? = some f := by rw [List.getElem?_eq_getElem hi', hfi]
    have hf := hD.files f hfm
    have hfn := hf.n
    obtain ⟨hbf, hrow⟩ := hfl f hfm
    have hn2 : ∀ x ∈ fs.map Fl.ent, x.key ≠ .string f.name := fun x hx ex => by
      obtain ⟨y, hy, rfl⟩ := List.mem_map.1 hx
      have h1 : y.abs ∈ (seenFs D.fs seen).map Fl.abs := hperm.subset (List.mem_map.2 ⟨y, hy, rfl⟩)
      obtain ⟨z, hz, hze⟩ := List.mem_map.1 h1
      obtain ⟨hz1, hz2⟩ := List.mem_filter.1 hz
      have hzn : z.name = f.name := by
        have : z.name = y.name := congrArg Prod.fst hze
        rw [this]
        injection ex
      obtain ⟨j, hj', hzj⟩ := List.mem_iff_getElem.1 hz1
      have hij := hD.ents.at_eq (i := j) (j := i) (x := z.ent) (y := f.ent) (by rw [List.getElem?_map, List.getElem?_eq_getElem hj', hzj]; rfl) (by rw [List.getElem?_map, hi]; rfl) (congrArg Value.string hzn)
      subst hij
      have hzf : z = f := by rw [← hzj, ← hfi]
      rw [hzf] at hz2
      exact hn (of_decide_eq_true hz2)
    repeat (first | refine VC.seq ?_ | refine VC.block ?_ | refine VC.skip ?_)
    refine VC.region ?_
    refine VR.val rfl rfl (r_entry rfl (hm1.at_ 0 0 rfl) (hm1.fix _ _ hbm) he hD.ents.nodup) ?_
    refine VR.pure rfl rfl (p_extract rfl rfl) ?_
    refine VR.pure rfl rfl (p_extract rfl rfl) ?_
    refine VR.pure rfl rfl (p_assignZ rfl) ?_
    refine VR.pure rfl rfl (p_assignP rfl) ?_
    refine VR.nil ?_
    simp only [mset, bset] at hm1
    repeat (first | refine VC.seq ?_ | refine VC.block ?_ | refine VC.skip ?_)
    refine VC.loud (Kept K ([(g2, .cells #[.int .i64 D.room, .int .i64 D.used, .map (some m2)] 63 (0, 0))] :: [])) [9, 15, 16] rfl (by kernel_rfl) (Kept.one hm1.drew 1 rfl) ?_
    replace hm1 := hm1.drew
    refine VL.pure rfl rfl rfl (p_moveP rfl) ?_
    refine VL.pure rfl rfl rfl (p_nilCheck rfl) ?_
    refine VL.pure rfl rfl rfl (p_field (fo := 2) Try.underlying63 rfl Try.sizeOf61 rfl rfl rfl) ?_
    refine VL.read rfl rfl rfl (fun w' hw' => r_load (v := .map _) Try.isAgg61 rfl (hw'.at_ 0 0 rfl) rfl) ?_
    refine VL.pure rfl rfl rfl (p_moveZ rfl) ?_
    refine VL.pure rfl rfl rfl (p_moveP rfl) ?_
    refine VL.pure rfl rfl rfl (p_nilCheck rfl) ?_
    refine VL.pure rfl rfl rfl (p_field (fo := 0) Try.underlying68 rfl Try.sizeOf22 rfl rfl rfl) ?_
    refine VL.read rfl rfl rfl (fun w' hw' => r_load (v := .slice _ _ _) Try.isAgg22 rfl (hw'.fix _ _ hbf) rfl) ?_
    refine VL.call rfl rfl rfl (r_call1 Try.call43 rfl) (clone_c hm1 (by omega) hrow) ?_
    rintro _ w ⟨A9, c9, L9, rfl, ho9, hm1⟩
    refine ⟨Kept.one hm1 2 rfl, ?_⟩
    refine VL.pure rfl rfl rfl (p_moveP rfl) ?_
    refine VL.pure rfl rfl rfl (p_nilCheck rfl) ?_
    refine VL.pure rfl rfl rfl (p_field (fo := 1) Try.underlying68 rfl Try.sizeOf3 rfl rfl rfl) ?_
    refine VL.read rfl rfl rfl (fun w' hw' => r_load (v := .int _ _) Try.isAgg3 rfl (hw'.fix _ _ hbf) rfl) ?_
    refine VL.pure rfl rfl rfl (p_build (vs := [(0, .slice _ _ _), (1, .int _ _)]) bld68_0_1 rfl) ?_
    refine VL.new hm1 rfl rfl rfl (n_boxG rfl) (fun b' w' hm' => Kept.one hm' 3 rfl) ?_
    intro b45 w hm1
    refine VL.updateMiss (u := .string _) (v := .pointer _) Try.underlying61 Try.underlying9 rfl rfl rfl rfl rfl hm1 4 0 rfl hE trivial hn2 (fun w' hm' => Kept.one hm' 3 rfl) ?_
    intro w hm1
    refine VL.nil ?_
    repeat (first | refine VC.seq ?_ | refine VC.block ?_ | refine VC.skip ?_)
    simp only [mset, bset] at hm1
    have h1 := ((hm1.pull 4 rfl).pull 4 rfl).pull 4 rfl
    have h2 := Mem.closeNewP (Ps := [[(r, _)], [(g2, _)], [(m2, _)]]) ⟨f.name, f.l, f.sy, ck, b45, A9, f.n, c9, L9⟩ h1
    refine ⟨(seen.push f.ent.born, ck + 1, fs ++ [⟨f.name, f.l, f.sy, ck, b45, A9, f.n, c9, L9⟩]), ⟨rfl, rfl, trivial⟩, ⟨?_, ?_, fun x hx => ?_, ?_⟩, ?_⟩
    · dsimp only
      rw [List.map_append (f := Fl.ent)]
      exact h2
    · dsimp only
      rw [List.map_append]
      exact hE.push trivial hn2
    · rcases List.mem_append.1 hx with hx | hx
      · exact hok x hx
      · rw [List.mem_singleton.1 hx]
        exact ⟨⟨ho9.toO, hfn, hf.sy⟩, hD.names f hfm⟩
    · dsimp only
      rw [List.map_append]
      have h3 := (seen_push hi hD.borns hn).map Fl.abs
      refine List.Perm.trans ?_ h3.symm
      show (fs.map Fl.abs ++ [f.abs]).Perm (f.abs :: (seenFs D.fs seen).map Fl.abs)
      exact (hperm.append_right _).trans List.perm_append_comm
    · exact unseen_lt (List.mem_map.2 ⟨f.ent, he, rfl⟩) hn
end Go.Bd
