/- Contracts of layer 8: texts held against each other, all names of a disk. Conditions: as each states. -/
import Derived.Test.Ytjohjlhjeommiaa08f
import Derived.Test.Ytjohjlhjeommiaa08s
namespace Go.Bd
open Go.Proofs
set_option linter.unusedVariables false
set_option maxRecDepth 20000

abbrev texts (l : List ByteArray) : List Value := l.map Value.string
theorem texts_one (l : List ByteArray) : ∀ u ∈ texts l, u.oneCell' = true := by
  intro u hu
  obtain ⟨x, _, rfl⟩ := List.mem_map.1 hu
  rfl
theorem text_at {l : List ByteArray} {i : Nat} {x : ByteArray} (h : l[i]? = some x) : (texts l)[i]? = some (.string x) := by
  unfold texts
  rw [List.getElem?_map, h]
  rfl
theorem same_texts_c {F : Env} {w : World} {Ls : List Blks} {A B : Option Addr} {n c m d : Nat} {xs ys : List ByteArray} (hm : Mem F w Ls) (hn : n ≤ maxLen)
    (hr : Row F.heap A n (texts xs)) (hs : Row F.heap B m (texts ys)) :
    Calls Try.prog 19 #[.slice A n c, .slice B m d] w (Ret fun v w' => v = .bool (decide (xs = ys)) ∧ Mem F w' Ls) := by
  have hl : xs.length = n := by have := hr.len; rwa [List.length_map] at this
  have hl2 : ys.length = m := by have := hs.len; rwa [List.length_map] at this
  unfold maxLen at hn
  refine Calls.of_vc Try.func19 rfl Try.ntmps19 rfl ?_
  repeat (first | refine VC.seq ?_ | refine VC.block ?_ | refine VC.skip ?_)
  refine VC.region ?_
  refine VR.pure rfl rfl (p_assignB rfl) ?_
  refine VR.nil ?_
  repeat (first | refine VC.seq ?_ | refine VC.block ?_ | refine VC.skip ?_)
  refine VC.region ?_
  refine VR.pure rfl rfl (p_moveL rfl) ?_
  refine VR.pure rfl rfl (p_len Try.underlying36 rfl) ?_
  refine VR.pure rfl rfl (p_moveL rfl) ?_
  refine VR.pure rfl rfl (p_len Try.underlying36 rfl) ?_
  refine VR.pure rfl rfl (p_ne rfl rfl) ?_
  refine VR.nil ?_
  repeat (first | refine VC.seq ?_ | refine VC.block ?_ | refine VC.skip ?_)
  refine VC.condD rfl (fun h => ?_) (fun h => ?_)
  · repeat (first | refine VC.seq ?_ | refine VC.block ?_ | refine VC.skip ?_)
    refine VC.region ?_
    refine VR.pure rfl rfl (p_assignB rfl) ?_
    refine VR.nil ?_
    repeat (first | refine VC.seq ?_ | refine VC.block ?_ | refine VC.skip ?_)
    refine VC.ret ⟨_, ResOf.r1 (v := .bool _) rfl rfl, ?_⟩
    exact ⟨congrArg Value.bool (decide_eq_false (fun e => h (by rw [← hl, ← hl2, e]))).symm, hm⟩
  · have hnm : n = m := by omega
    subst hnm
    repeat (first | refine VC.seq ?_ | refine VC.block ?_ | refine VC.skip ?_)
    refine VC.region ?_
    refine VR.pure rfl rfl (p_assignI rfl) ?_
    refine VR.nil ?_
    repeat (first | refine VC.seq ?_ | refine VC.block ?_ | refine VC.skip ?_)
    refine VC.loop (σ := Nat) (fun k => [(0, .slice A n c), (1, .slice B n d), (5, .int .i64 k)]) (fun k w => Mem F w Ls ∧ k ≤ n ∧ xs.take k = ys.take k) (fun k => n - k) 0 ⟨rfl, rfl, rfl, trivial⟩ ⟨hm, by omega, by simp⟩ ?_
    rintro k A' w ⟨hm, hk, hno⟩
    repeat (first | refine VC.seq ?_ | refine VC.block ?_ | refine VC.skip ?_)
    refine VC.region ?_
    refine VR.pure rfl rfl (p_moveI rfl) ?_
    refine VR.pure rfl rfl (p_moveL rfl) ?_
    refine VR.pure rfl rfl (p_len Try.underlying36 rfl) ?_
    refine VR.pure rfl rfl (p_lt rfl rfl) ?_
    refine VR.nil ?_
    repeat (first | refine VC.seq ?_ | refine VC.block ?_ | refine VC.skip ?_)
    refine VC.condD rfl (fun h => ?_) (fun h => ?_)
    · have hk' : k < n := by omega
      obtain ⟨x, hx, _⟩ := get_of (xs := xs) (k := k) (by omega)
      obtain ⟨y, hy, _⟩ := get_of (xs := ys) (k := k) (by omega)
      obtain ⟨b, off, blk, T, fr, rfl, hb, hc⟩ := Row.get hr (by omega)
      obtain ⟨b2, off2, blk2, T2, fr2, rfl, hb2, hc2⟩ := Row.get hs (by omega)
      repeat (first | refine VC.seq ?_ | refine VC.block ?_ | refine VC.skip ?_)
      refine VC.loud (Kept F []) [] rfl (by kernel_rfl) (Kept.of0 hm.drew) ?_
      replace hm := hm.drew
      refine VL.pure rfl rfl rfl (p_moveL rfl) ?_
      refine VL.pure rfl rfl rfl (p_moveI rfl) ?_
      refine VL.pure rfl rfl rfl (p_idx1 Try.underlying36 Try.sizeOf9 rfl rfl hk') ?_
      refine VL.read rfl rfl rfl (fun w' hw' => r_load (v := .string _) Try.isAgg9 rfl (hw'.fix _ _ hb) ((hc k hk').trans (text_at hx))) ?_
      refine VL.pure rfl rfl rfl (p_moveL rfl) ?_
      refine VL.pure rfl rfl rfl (p_moveI rfl) ?_
      refine VL.pure rfl rfl rfl (p_idx1 Try.underlying36 Try.sizeOf9 rfl rfl hk') ?_
      refine VL.read rfl rfl rfl (fun w' hw' => r_load (v := .string _) Try.isAgg9 rfl (hw'.fix _ _ hb2) ((hc2 k hk').trans (text_at hy))) ?_
      refine VL.pure rfl rfl rfl (p_neS rfl rfl) ?_
      refine VL.nil ?_
      repeat (first | refine VC.seq ?_ | refine VC.block ?_ | refine VC.skip ?_)
      refine VC.condD rfl (fun h2 => ?_) (fun h2 => ?_)
      · repeat (first | refine VC.seq ?_ | refine VC.block ?_ | refine VC.skip ?_)
        refine VC.region ?_
        refine VR.pure rfl rfl (p_assignB rfl) ?_
        refine VR.nil ?_
        repeat (first | refine VC.seq ?_ | refine VC.block ?_ | refine VC.skip ?_)
        refine VC.ret ⟨_, ResOf.r1 (v := .bool _) rfl rfl, ?_⟩
        refine ⟨congrArg Value.bool (decide_eq_false (fun e => h2 ?_)).symm, hm⟩
        rw [e, hy] at hx
        rw [Option.some.inj hx]
      · repeat (first | refine VC.seq ?_ | refine VC.block ?_ | refine VC.skip ?_)
        refine VC.region ?_
        refine VR.pure rfl rfl (p_moveI rfl) ?_
        refine VR.pure rfl rfl (p_add64 rfl rfl (by omega)) ?_
        refine VR.pure rfl rfl (p_assignI rfl) ?_
        refine VR.nil ?_
        exact ⟨k + 1, ⟨rfl, rfl, rfl, trivial⟩, ⟨hm, by omega, same_at hx hy hno (str_eq.1 (Classical.not_not.1 h2))⟩, by omega⟩
    · repeat (first | refine VC.seq ?_ | refine VC.block ?_ | refine VC.skip ?_)
      refine VC.exit ?_
      repeat (first | refine VC.seq ?_ | refine VC.block ?_ | refine VC.skip ?_)
      refine VC.region ?_
      refine VR.pure rfl rfl (p_assignB rfl) ?_
      refine VR.nil ?_
      repeat (first | refine VC.seq ?_ | refine VC.block ?_ | refine VC.skip ?_)
      refine VC.ret ⟨_, ResOf.r1 (v := .bool _) rfl rfl, ?_⟩
      refine ⟨congrArg Value.bool (decide_eq_true ?_).symm, hm⟩
      rwa [List.take_of_length_le (by omega), List.take_of_length_le (by omega)] at hno

set_option maxHeartbeats 2000000 in
theorem list_c {F : Env} {w : World} {g m : Nat} {D : Dk} (hm : Mem F w (dkB g m D)) (hD : DkOk D) (hlen : D.fs.length ≤ 1000000) :
    Calls Try.prog 20 #[.pointer (some ⟨g, 0, none⟩)] w (Ret fun v w' => ∃ A c L, v = .slice A (sortN (D.abs.fs.map (·.1))).length c ∧ OwnS 9 1 A (sortN (D.abs.fs.map (·.1))).length c (texts (sortN (D.abs.fs.map (·.1)))) L ∧ Mem F w' (L :: dkB g m D)) := by
  have hnames : D.abs.fs.map (·.1) = D.fs.map (·.name) := by
    show (D.fs.map Fl.abs).map _ = _
    rw [List.map_map]
    rfl
  rw [hnames]
  refine Calls.of_vc Try.func20 rfl Try.ntmps20 rfl ?_
  repeat (first | refine VC.seq ?_ | refine VC.block ?_ | refine VC.skip ?_)
  refine VC.region ?_
  refine VR.pure rfl rfl (p_assignL rfl) ?_
  refine VR.nil ?_
  repeat (first | refine VC.seq ?_ | refine VC.block ?_ | refine VC.skip ?_)
  refine VC.region ?_
  refine VR.pure rfl rfl (p_moveP rfl) ?_
  refine VR.call rfl rfl (r_call1 Try.call40 rfl) (made_c hm) ?_
  rintro _ w ⟨rfl, hm⟩
  refine VR.pure rfl rfl (p_not rfl) ?_
  refine VR.nil ?_
  repeat (first | refine VC.seq ?_ | refine VC.block ?_ | refine VC.skip ?_)
  refine VC.condF rfl rfl ?_
  obtain ⟨K, huK, hm1, hKl, hback⟩ := Mem.aside (show Mem F w (dkB g m D) from hm)
  have hbg : K.heap g = some (D.obj m) := hKl _ (.head _) _ (.head _)
  have hbm : K.heap m = some D.map := hKl _ (.tail _ (.head _)) _ (.head _)
  clear hKl hm
  repeat (first | refine VC.seq ?_ | refine VC.block ?_ | refine VC.skip ?_)
  refine VC.region ?_
  refine VR.pure rfl rfl (p_assignL rfl) ?_
  refine VR.nil ?_
  repeat (first | refine VC.seq ?_ | refine VC.block ?_ | refine VC.skip ?_)
  refine VC.region ?_
  refine VR.pure rfl rfl (p_moveP rfl) ?_
  refine VR.pure rfl rfl (p_nilCheck rfl) ?_
  refine VR.pure rfl rfl (p_field (fo := 2) Try.underlying63 rfl Try.sizeOf61 rfl rfl rfl) ?_
  refine VR.val rfl rfl (r_load (v := .map _) Try.isAgg61 rfl (hm1.fix _ _ hbg) rfl) ?_
  refine VR.rangeMap Try.underlying61 rfl rfl rfl hm1 (hm1.fix _ _ hbm) ?_
  intro r w hm1
  refine VR.nil ?_
  repeat (first | refine VC.seq ?_ | refine VC.block ?_ | refine VC.skip ?_)
  refine VC.loop (σ := Array Nat × Option Addr × Nat × List ByteArray × Blks) (fun s => [(3, .slice s.2.1 s.2.2.2.1.length s.2.2.1), (12, .pointer (some ⟨r, 0, none⟩))])
    (fun s w => Mem K w ([(r, .mapIter (some m) D.clock s.1 D.clock)] :: s.2.2.2.2 :: []) ∧ OwnS 9 1 s.2.1 s.2.2.2.1.length s.2.2.1 (texts s.2.2.2.1) s.2.2.2.2 ∧ s.2.2.2.1.Perm ((seenFs D.fs s.1).map (·.name)))
    (fun s => unseen (D.ents.map (·.born)) s.1) (#[], none, 0, [], []) ⟨rfl, rfl, trivial⟩ ⟨hm1.nil_.swap, OwnS.nil _ _, by
      rw [show seenFs D.fs #[] = [] from List.filter_eq_nil_iff.2 (by simp)]
      exact List.Perm.refl _⟩ ?_
  clear hm1
  rintro ⟨seen, A, c, ns, L⟩ A' w ⟨hm1, ho, hperm⟩
  dsimp only at hm1 ho hperm ⊢
  have hle : ns.length ≤ D.fs.length := by
    rw [hperm.length_eq, List.length_map]
    exact List.length_filter_le _ _
  by_cases hall : ∀ x ∈ D.ents, x.born ∈ seen.toList
  · repeat (first | refine VC.seq ?_ | refine VC.block ?_ | refine VC.skip ?_)
    refine VC.region ?_
    refine VR.nextEnd rfl rfl rfl hm1 0 0 rfl (hm1.fix _ _ hbm) hD.ents.born (Nat.le_refl _) hall ?_
    refine VR.pure rfl rfl (p_extract rfl rfl) ?_
    refine VR.nil ?_
    repeat (first | refine VC.seq ?_ | refine VC.block ?_ | refine VC.skip ?_)
    refine VC.condF rfl rfl ?_
    repeat (first | refine VC.seq ?_ | refine VC.block ?_ | refine VC.skip ?_)
    refine VC.exit ?_
    have hse : seenFs D.fs seen = D.fs := List.filter_eq_self.2 fun f hf => decide_eq_true (hall f.ent (List.mem_map.2 ⟨f, hf, rfl⟩))
    rw [hse] at hperm
    repeat (first | refine VC.seq ?_ | refine VC.block ?_ | refine VC.skip ?_)
    refine VC.region ?_
    refine VR.pure rfl rfl (p_moveL rfl) ?_
    replace hm1 := hm1.swap
    refine VR.call rfl rfl (r_call1 Try.call45 rfl) (sort_c hm1 ho (by omega)) ?_
    rintro v1 w ⟨L', ho', hm1⟩
    refine VR.nil ?_
    repeat (first | refine VC.seq ?_ | refine VC.block ?_ | refine VC.skip ?_)
    refine VC.region ?_
    refine VR.pure rfl rfl (p_moveL rfl) ?_
    refine VR.pure rfl rfl (p_assignL rfl) ?_
    refine VR.nil ?_
    repeat (first | refine VC.seq ?_ | refine VC.block ?_ | refine VC.skip ?_)
    refine VC.ret ⟨_, ResOf.r1 (v := .slice _ _ _) rfl rfl, ?_⟩
    rw [← sortN_perm hperm]
    have hl' : (sortN ns).length = ns.length := sortN_length ns
    rw [hl']
    exact ⟨A, c, L', rfl, ho', hback (As := [L']) hm1.pop2⟩
  · repeat (first | refine VC.seq ?_ | refine VC.block ?_ | refine VC.skip ?_)
    refine VC.region ?_
    refine VR.nextElem rfl rfl rfl hm1 0 0 rfl (hm1.fix _ _ hbm) hD.ents.born (Nat.le_refl _) hall ?_
    intro e he hn w hm1
    refine VR.pure rfl rfl (p_extract rfl rfl) ?_
    refine VR.nil ?_
    repeat (first | refine VC.seq ?_ | refine VC.block ?_ | refine VC.skip ?_)
    refine VC.condT rfl rfl ?_
    obtain ⟨f, hfm, rfl⟩ := List.mem_map.1 he
    obtain ⟨i, hi', hfi⟩ := List.mem_iff_getElem.1 hfm
    have hi : D.fs[i]? = some f := by rw [List.getElem?_eq_getElem hi', hfi]
    repeat (first | refine VC.seq ?_ | refine VC.block ?_ | refine VC.skip ?_)
    refine VC.region ?_
    refine VR.val rfl rfl (r_entry rfl (hm1.at_ 0 0 rfl) (hm1.fix _ _ hbm) he hD.ents.nodup) ?_
    refine VR.pure rfl rfl (p_extract rfl rfl) ?_
    refine VR.pure rfl rfl (p_assignZ rfl) ?_
    refine VR.nil ?_
    simp only [mset, bset] at hm1
    repeat (first | refine VC.seq ?_ | refine VC.block ?_ | refine VC.skip ?_)
    refine VC.region ?_
    refine VR.pure rfl rfl (p_moveL rfl) ?_
    refine VR.pure rfl rfl (p_moveZ rfl) ?_
    refine VR.new hm1 rfl rfl (n_buildSlice1 (vs := [.string _]) Try.underlying36 inf9 rfl rfl rfl rfl rfl rfl rfl) ?_
    intro b19 w hm1
    replace hm1 := hm1.pull 2 rfl
    refine VR.append (s := 1) (bytes := 16) Try.underlying36 inf9 rfl rfl rfl rfl rfl rfl rfl rfl rfl hm1 ho (Row.lit (cs := [.string f.name]) (hm1.at_ 1 0 rfl)) (texts_one [f.name]) rfl ⟨by unfold maxLen; omega, by omega⟩ ?_
    intro A3 c3 w L3 ho3 hm1
    refine VR.pure rfl rfl (p_assignL rfl) ?_
    refine VR.nil ?_
    repeat (first | refine VC.seq ?_ | refine VC.block ?_ | refine VC.skip ?_)
    have ho4 : OwnS 9 1 A3 (ns ++ [f.name]).length c3 (texts (ns ++ [f.name])) L3 := by
      unfold texts
      rw [List.map_append, List.length_append]
      exact ho3
    refine ⟨(seen.push f.ent.born, A3, c3, ns ++ [f.name], L3), ⟨by rw [List.length_append]; rfl, rfl, trivial⟩, ⟨hm1.pop2.swap, ho4, ?_⟩, unseen_lt (List.mem_map.2 ⟨f.ent, he, rfl⟩) hn⟩
    have h3 := (seen_push hi hD.borns hn).map (·.name)
    refine List.Perm.trans ?_ h3.symm
    exact (hperm.append_right _).trans List.perm_append_comm
end Go.Bd
