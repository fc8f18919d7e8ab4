/- Contracts of layer 8: crash, copy. Conditions: as each states. -/
import Derived.Test.Ytjohjlhjeommiaa08d
namespace Go.Bd
open Go.Proofs
set_option linter.unusedVariables false
set_option maxRecDepth 20000

theorem Mem.aside {F : Env} {w : World} {Ls : List Blks} (h : Mem F w Ls) : ∃ K, F.under K ∧ Mem K w [] ∧ (∀ L ∈ Ls, ∀ p ∈ L, K.heap p.1 = some p.2) ∧ ∀ {w' : World} {As : List Blks}, Mem K w' As → Mem F w' (As ++ Ls) :=
  ⟨F.plus Ls, ⟨rfl, rfl, rfl, h.le⟩, h.all, fun L hL => h.plus_mem hL, fun h' => h.back h'⟩
/-! ### A disk gone through -/
/-- How many of some times have not been seen. -/
def unseen (bs : List Nat) (seen : Array Nat) : Nat := (bs.filter fun b => decide (b ∉ seen.toList)).length
theorem unseen_lt {bs : List Nat} {seen : Array Nat} {b : Nat} (hb : b ∈ bs) (hn : b ∉ seen.toList) : unseen bs (seen.push b) < unseen bs seen := by
  unfold unseen
  have hsub : (bs.filter fun x => decide (x ∉ (seen.push b).toList)).Sublist (bs.filter fun x => decide (x ∉ seen.toList)) := by
    have : (bs.filter fun x => decide (x ∉ (seen.push b).toList)) = (bs.filter fun x => decide (x ∉ seen.toList)).filter fun x => decide (x ≠ b) := by
      rw [List.filter_filter]
      apply List.filter_congr
      intro x _
      simp only [Array.toList_push, List.mem_append, List.mem_singleton, not_or]
      by_cases h1 : x ∈ seen.toList <;> by_cases h2 : x = b <;> simp [h1, h2]
    rw [this]
    exact List.filter_sublist
  have hle := hsub.length_le
  rcases Nat.lt_or_ge (bs.filter fun x => decide (x ∉ (seen.push b).toList)).length (bs.filter fun x => decide (x ∉ seen.toList)).length with h | h
  · exact h
  · have heq := hsub.eq_of_length (Nat.le_antisymm hle h)
    have hmem : b ∈ (bs.filter fun x => decide (x ∉ seen.toList)) := List.mem_filter.2 ⟨hb, decide_eq_true hn⟩
    rw [← heq] at hmem
    have := (List.mem_filter.1 hmem).2
    simp at this
theorem Mem.openP {F : Env} {w : World} {Ps : List Blks} {fs : List Fl} {i : Nat} {f : Fl} (hm : Mem F w (Ps ++ fs.map Fl.mem)) (hi : fs[i]? = some f) : Mem F w (Ps ++ ([(f.blk, f.obj)] :: f.L :: (fs.eraseIdx i).map Fl.mem)) := hm.permF (by
  have h := flat_perm (perm_out hi)
  simp only [List.flatten_append, List.flatten_cons]
  refine (List.Perm.refl _).append ?_
  refine h.trans ?_
  rw [List.map_cons, List.flatten_cons, ← List.append_assoc]
  exact List.Perm.refl _)
theorem Mem.closeP {F : Env} {w : World} {Ps : List Blks} {fs : List Fl} {i : Nat} {f : Fl} (f' : Fl) (hm : Mem F w (Ps ++ ([(f'.blk, f'.obj)] :: f'.L :: (fs.eraseIdx i).map Fl.mem))) (hi : fs[i]? = some f) : Mem F w (Ps ++ (fs.set i f').map Fl.mem) := hm.permF (by
  have h := flat_perm (perm_set (y := f') hi)
  simp only [List.flatten_append, List.flatten_cons]
  refine (List.Perm.refl _).append ?_
  refine List.Perm.trans ?_ h.symm
  rw [List.map_cons, List.flatten_cons, ← List.append_assoc]
  exact List.Perm.refl _)

/-- A file as a crash leaves it, if it has been come to. -/
def crashed (keep : Int) (seen : Array Nat) (f : Fl) : Fa := if f.born ∈ seen.toList then cutF (keepN keep f.abs) f.abs else f.abs
theorem keep_le {keep : Int} {f : Fl} (h : FlOk f) : keepN keep f.abs ≤ f.n ∧ (keepN keep f.abs : Int) = f.sy + min (max keep 0) ((f.n : Int) - f.sy) := by
  have h1 := h.len
  have h2 := h.sy
  unfold keepN Fl.abs
  dsimp only
  rw [h1]
  constructor <;> omega
theorem set_eq_map {α β γ : Type} {l : List α} {u v : α → β} {i : Nat} {x : α} {y : β} (hx : l[i]? = some x) (hy : y = v x) (h : ∀ j z, l[j]? = some z → j ≠ i → v z = u z) : (l.map u).set i y = l.map v := by
  apply List.ext_getElem?
  intro j
  rw [List.getElem?_set]
  by_cases e : i = j
  · subst e
    rw [if_pos rfl, if_pos (by rw [List.length_map]; exact (List.getElem?_eq_some_iff.1 hx).1), List.getElem?_map, hx, hy]
    rfl
  · rw [if_neg e, List.getElem?_map, List.getElem?_map]
    cases hz : l[j]? with
    | none => rfl
    | some z => exact congrArg some (h j z hz (Ne.symm e)).symm

set_option maxHeartbeats 4000000 in
theorem crash_c {F : Env} {w : World} {g m : Nat} {D : Dk} {keep : Int} (hm : Mem F w (dkB g m D)) (hD : DkOk D) :
    Calls Try.prog 15 #[.pointer (some ⟨g, 0, none⟩), .int .i64 keep] w (Ret fun v w' => ∃ D', D'.abs = crashD D.abs keep ∧ DkOk D' ∧ Mem F w' (dkB g m D')) := by
  refine Calls.of_vc Try.func15 rfl Try.ntmps15 rfl ?_
  unfold dkB at hm
  repeat (first | refine VC.seq ?_ | refine VC.block ?_ | refine VC.skip ?_)
  refine VC.region ?_
  refine VR.pure rfl rfl (p_moveP rfl) ?_
  refine VR.call rfl rfl (r_call1 Try.call40 rfl) (made_c hm) ?_
  rintro _ w ⟨rfl, hm⟩
  refine VR.pure rfl rfl (p_not rfl) ?_
  refine VR.nil ?_
  repeat (first | refine VC.seq ?_ | refine VC.block ?_ | refine VC.skip ?_)
  refine VC.condF rfl rfl ?_
  repeat (first | refine VC.seq ?_ | refine VC.block ?_ | refine VC.skip ?_)
  refine VC.region ?_
  refine VR.pure rfl rfl (p_moveP rfl) ?_
  refine VR.pure rfl rfl (p_nilCheck rfl) ?_
  refine VR.pure rfl rfl (p_field (fo := 2) Try.underlying63 rfl Try.sizeOf61 rfl rfl rfl) ?_
  refine VR.val rfl rfl (r_load (v := .map _) Try.isAgg61 rfl (hm.at_ 0 0 rfl) rfl) ?_
  refine VR.rangeMap Try.underlying61 rfl rfl rfl hm (hm.at_ 1 0 rfl) ?_
  intro r w hm
  refine VR.nil ?_
  have hapart : ∀ (i j : Nat) (x y : Fl), D.fs[i]? = some x → D.fs[j]? = some y → i ≠ j → x.born ≠ y.born := fun i j x y hx hy hij e => by
    have h1 : (D.ents.map (·.born))[i]? = some x.born := by rw [List.getElem?_map, List.getElem?_map, hx]; rfl
    have h2 : (D.ents.map (·.born))[j]? = some x.born := by rw [List.getElem?_map, List.getElem?_map, hy, e]; rfl
    obtain ⟨hi', e1⟩ := List.getElem?_eq_some_iff.1 h1
    obtain ⟨hj', e2⟩ := List.getElem?_eq_some_iff.1 h2
    exact hij ((List.getElem_inj hD.ents.nodup).1 (e1.trans e2.symm))
  repeat (first | refine VC.seq ?_ | refine VC.block ?_ | refine VC.skip ?_)
  refine VC.loop (σ := Array Nat × Int × List Fl) (fun s => [(0, .pointer (some ⟨g, 0, none⟩)), (1, .int .i64 keep), (13, .pointer (some ⟨r, 0, none⟩))])
    (fun s w => Mem F w ([(r, .mapIter (some m) D.clock s.1 D.clock)] :: dkB g m ⟨D.room, s.2.1, D.clock, s.2.2⟩) ∧ DkOk ⟨D.room, s.2.1, D.clock, s.2.2⟩ ∧ s.2.2.map Fl.ent = D.ents ∧ s.2.2.map Fl.abs = D.fs.map (crashed keep s.1))
    (fun s => unseen (D.ents.map (·.born)) s.1) (#[], D.used, D.fs) ⟨rfl, rfl, rfl, trivial⟩ ⟨hm, hD, rfl, by
      apply List.map_congr_left
      intro f _
      unfold crashed
      rw [if_neg (by simp)]⟩ ?_
  clear hm
  rintro ⟨seen, used, fs⟩ A' w ⟨hm, hD1, hents, habs⟩
  dsimp only at hm hD1 hents habs ⊢
  have hents' : Dk.ents ⟨D.room, used, D.clock, fs⟩ = D.ents := hents
  unfold dkB Dk.map at hm
  rw [hents'] at hm
  by_cases hall : ∀ x ∈ D.ents, x.born ∈ seen.toList
  · repeat (first | refine VC.seq ?_ | refine VC.block ?_ | refine VC.skip ?_)
    refine VC.region ?_
    refine VR.nextEnd rfl rfl rfl hm 0 0 rfl (hm.at_ 2 0 rfl) hD.ents.born (Nat.le_refl _) hall ?_
    refine VR.pure rfl rfl (p_extract rfl rfl) ?_
    refine VR.nil ?_
    repeat (first | refine VC.seq ?_ | refine VC.block ?_ | refine VC.skip ?_)
    refine VC.condF rfl rfl ?_
    repeat (first | refine VC.seq ?_ | refine VC.block ?_ | refine VC.skip ?_)
    refine VC.exit ?_
    refine ⟨_, ResOf.r0 rfl, ⟨D.room, used, D.clock, fs⟩, ?_, hD1, ?_⟩
    · show Da.mk D.room (fs.map Fl.abs) = ⟨D.room, (D.fs.map Fl.abs).map _⟩
      rw [habs, List.map_map]
      refine congrArg _ (List.map_congr_left fun f hf => ?_)
      unfold crashed
      rw [if_pos (hall f.ent (List.mem_map.2 ⟨f, hf, rfl⟩))]
      rfl
    · unfold dkB Dk.map
      rw [hents']
      exact hm.pop
  · repeat (first | refine VC.seq ?_ | refine VC.block ?_ | refine VC.skip ?_)
    refine VC.region ?_
    refine VR.nextElem rfl rfl rfl hm 0 0 rfl (hm.at_ 2 0 rfl) hD.ents.born (Nat.le_refl _) hall ?_
    intro e he hn w hm
    refine VR.pure rfl rfl (p_extract rfl rfl) ?_
    refine VR.nil ?_
    repeat (first | refine VC.seq ?_ | refine VC.block ?_ | refine VC.skip ?_)
    refine VC.condT rfl rfl ?_
    obtain ⟨i, hi', rfl⟩ := List.mem_iff_getElem.1 he
    obtain ⟨f, hi, hfe⟩ : ∃ f, fs[i]? = some f ∧ f.ent = D.ents[i] := by
      have h1 : (fs.map Fl.ent)[i]? = some D.ents[i] := by rw [hents, List.getElem?_eq_getElem hi']
      rw [List.getElem?_map] at h1
      obtain ⟨f, h2, h3⟩ := Option.map_eq_some_iff.1 h1
      exact ⟨f, h2, h3⟩
    rw [← hfe] at he hn hm ⊢
    have hf := hD1.files f (List.mem_of_getElem? hi)
    have hfn := hf.n
    have hfs := hf.sy
    obtain ⟨hkl, hke⟩ := keep_le (keep := keep) hf
    obtain ⟨f0, hi0, hf0⟩ : ∃ f0, D.fs[i]? = some f0 ∧ f0.ent = f.ent := by
      have h1 : (D.fs.map Fl.ent)[i]? = some f.ent := by rw [hfe]; exact List.getElem?_eq_getElem hi'
      rw [List.getElem?_map] at h1
      obtain ⟨f0, h2, h3⟩ := Option.map_eq_some_iff.1 h1
      exact ⟨f0, h2, h3⟩
    have hb0 : f0.born = f.born := congrArg MapEntry.born hf0
    have ha0 : f0.abs = f.abs := by
      have h1 : (fs.map Fl.abs)[i]? = some f.abs := by rw [List.getElem?_map, hi]; rfl
      rw [habs, List.getElem?_map, hi0] at h1
      have h2 : crashed keep seen f0 = f.abs := Option.some.inj h1
      unfold crashed at h2
      rwa [if_neg (by rw [hb0]; exact hn)] at h2
    have hroom := hD1.room
    have hless := (hD1.less hi).2
    dsimp only at hroom hless
    repeat (first | refine VC.seq ?_ | refine VC.block ?_ | refine VC.skip ?_)
    refine VC.region ?_
    refine VR.val rfl rfl (r_entry rfl (hm.at_ 0 0 rfl) (hm.at_ 2 0 rfl) he hD.ents.nodup) ?_
    refine VR.pure rfl rfl (p_extract rfl rfl) ?_
    refine VR.pure rfl rfl (p_assignP rfl) ?_
    refine VR.nil ?_
    simp only [mset, bset] at hm
    replace hm := Mem.openP (Ps := [[(r, _)], [(g, _)], [(m, _)]]) hm hi
    replace hm := (hm.pull 3 rfl).pull 2 rfl
    repeat (first | refine VC.seq ?_ | refine VC.block ?_ | refine VC.skip ?_)
    refine VC.free (Kept F []) [5, 11, 16, 20] rfl (by kernel_rfl) (Kept.of0 hm.drew) ?_
    replace hm := hm.drew
    refine VD.pure 0 rfl (by kernel_rfl) rfl rfl (p_moveP rfl) ?_
    refine VD.pure 1 rfl (by kernel_rfl) rfl rfl (p_moveP rfl) ?_
    refine VD.pure 2 rfl (by kernel_rfl) rfl rfl (p_moveP rfl) ?_
    refine VD.pure 3 rfl (by kernel_rfl) rfl rfl (p_nilCheck rfl) ?_
    refine VD.pure 4 rfl (by kernel_rfl) rfl rfl (p_field (fo := 1) Try.underlying68 rfl Try.sizeOf3 rfl rfl rfl) ?_
    refine VD.pure 6 rfl (by kernel_rfl) rfl rfl (p_moveI rfl) ?_
    refine VD.pure 7 rfl (by kernel_rfl) rfl rfl (p_max rfl rfl) ?_
    refine VD.pure 8 rfl (by kernel_rfl) rfl rfl (p_moveP rfl) ?_
    refine VD.pure 9 rfl (by kernel_rfl) rfl rfl (p_nilCheck rfl) ?_
    refine VD.pure 10 rfl (by kernel_rfl) rfl rfl (p_field (fo := 0) Try.underlying68 rfl Try.sizeOf22 rfl rfl rfl) ?_
    refine VD.pure 13 rfl (by kernel_rfl) rfl rfl (p_moveP rfl) ?_
    refine VD.pure 14 rfl (by kernel_rfl) rfl rfl (p_nilCheck rfl) ?_
    refine VD.pure 15 rfl (by kernel_rfl) rfl rfl (p_field (fo := 1) Try.underlying68 rfl Try.sizeOf3 rfl rfl rfl) ?_
    refine VD.turn3 5 11 16 (by kernel_rfl) ?_ ?_ ?_
    refine VDT.val rfl rfl rfl (r_load (v := .int _ _) Try.isAgg3 rfl (hm.at_ 1 0 rfl) rfl) (Kept.of0 hm) ?_
    refine VD.turn2 11 16 (by kernel_rfl) ?_ ?_
    refine VDT.val rfl rfl rfl (r_load (v := .slice _ _ _) Try.isAgg22 rfl (hm.at_ 1 0 rfl) rfl) (Kept.of0 hm) ?_
    refine VD.pure 12 rfl (by kernel_rfl) rfl rfl (p_len Try.underlying22 rfl) ?_
    refine VD.turn1 16 (by kernel_rfl) ?_
    refine VDT.val rfl rfl rfl (r_load (v := .int _ _) Try.isAgg3 rfl (hm.at_ 1 0 rfl) rfl) (Kept.of0 hm) ?_
    refine VD.pure 17 rfl (by kernel_rfl) rfl rfl (p_sub64 rfl rfl (by omega)) ?_
    refine VD.pure 18 rfl (by kernel_rfl) rfl rfl (p_min rfl rfl) ?_
    refine VD.pure 19 rfl (by kernel_rfl) rfl rfl (p_add64E (r := ((keepN keep f.abs : Nat) : Int)) rfl rfl hke.symm (by omega)) ?_
    refine VD.turn1 20 (by kernel_rfl) ?_
    refine VDT.call rfl rfl rfl (r_call3 Try.call44 rfl rfl rfl) (cutf_c (used := used) hf hkl (by omega) hm) ?_
    rintro v w hm
    refine ⟨Kept.of0 hm, ?_⟩
    refine VD.nil (by kernel_rfl) rfl ?_
    rotate_left 1
    refine VDT.val rfl rfl rfl (r_load (v := .int _ _) Try.isAgg3 rfl (hm.at_ 1 0 rfl) rfl) (Kept.of0 hm) ?_
    refine VD.turn1 11 (by kernel_rfl) ?_
    refine VDT.val rfl rfl rfl (r_load (v := .slice _ _ _) Try.isAgg22 rfl (hm.at_ 1 0 rfl) rfl) (Kept.of0 hm) ?_
    refine VD.pure 12 rfl (by kernel_rfl) rfl rfl (p_len Try.underlying22 rfl) ?_
    refine VD.pure 17 rfl (by kernel_rfl) rfl rfl (p_sub64 rfl rfl (by omega)) ?_
    refine VD.pure 18 rfl (by kernel_rfl) rfl rfl (p_min rfl rfl) ?_
    refine VD.pure 19 rfl (by kernel_rfl) rfl rfl (p_add64E (r := ((keepN keep f.abs : Nat) : Int)) rfl rfl hke.symm (by omega)) ?_
    refine VD.turn1 20 (by kernel_rfl) ?_
    refine VDT.call rfl rfl rfl (r_call3 Try.call44 rfl rfl rfl) (cutf_c (used := used) hf hkl (by omega) hm) ?_
    rintro v w hm
    refine ⟨Kept.of0 hm, ?_⟩
    refine VD.nil (by kernel_rfl) rfl ?_
    rotate_left 1
    refine VDT.val rfl rfl rfl (r_load (v := .slice _ _ _) Try.isAgg22 rfl (hm.at_ 1 0 rfl) rfl) (Kept.of0 hm) ?_
    refine VD.pure 12 rfl (by kernel_rfl) rfl rfl (p_len Try.underlying22 rfl) ?_
    refine VD.turn2 5 16 (by kernel_rfl) ?_ ?_
    refine VDT.val rfl rfl rfl (r_load (v := .int _ _) Try.isAgg3 rfl (hm.at_ 1 0 rfl) rfl) (Kept.of0 hm) ?_
    refine VD.turn1 16 (by kernel_rfl) ?_
    refine VDT.val rfl rfl rfl (r_load (v := .int _ _) Try.isAgg3 rfl (hm.at_ 1 0 rfl) rfl) (Kept.of0 hm) ?_
    refine VD.pure 17 rfl (by kernel_rfl) rfl rfl (p_sub64 rfl rfl (by omega)) ?_
    refine VD.pure 18 rfl (by kernel_rfl) rfl rfl (p_min rfl rfl) ?_
    refine VD.pure 19 rfl (by kernel_rfl) rfl rfl (p_add64E (r := ((keepN keep f.abs : Nat) : Int)) rfl rfl hke.symm (by omega)) ?_
    refine VD.turn1 20 (by kernel_rfl) ?_
    refine VDT.call rfl rfl rfl (r_call3 Try.call44 rfl rfl rfl) (cutf_c (used := used) hf hkl (by omega) hm) ?_
    rintro v w hm
    refine ⟨Kept.of0 hm, ?_⟩
    refine VD.nil (by kernel_rfl) rfl ?_
    rotate_left 1
    refine VDT.val rfl rfl rfl (r_load (v := .int _ _) Try.isAgg3 rfl (hm.at_ 1 0 rfl) rfl) (Kept.of0 hm) ?_
    refine VD.pure 17 rfl (by kernel_rfl) rfl rfl (p_sub64 rfl rfl (by omega)) ?_
    refine VD.pure 18 rfl (by kernel_rfl) rfl rfl (p_min rfl rfl) ?_
    refine VD.turn1 5 (by kernel_rfl) ?_
    refine VDT.val rfl rfl rfl (r_load (v := .int _ _) Try.isAgg3 rfl (hm.at_ 1 0 rfl) rfl) (Kept.of0 hm) ?_
    refine VD.pure 19 rfl (by kernel_rfl) rfl rfl (p_add64E (r := ((keepN keep f.abs : Nat) : Int)) rfl rfl hke.symm (by omega)) ?_
    refine VD.turn1 20 (by kernel_rfl) ?_
    refine VDT.call rfl rfl rfl (r_call3 Try.call44 rfl rfl rfl) (cutf_c (used := used) hf hkl (by omega) hm) ?_
    rintro v w hm
    refine ⟨Kept.of0 hm, ?_⟩
    refine VD.nil (by kernel_rfl) rfl ?_
    rotate_left 1
    refine VDT.val rfl rfl rfl (r_load (v := .int _ _) Try.isAgg3 rfl (hm.at_ 1 0 rfl) rfl) (Kept.of0 hm) ?_
    refine VD.turn2 5 11 (by kernel_rfl) ?_ ?_
    refine VDT.val rfl rfl rfl (r_load (v := .int _ _) Try.isAgg3 rfl (hm.at_ 1 0 rfl) rfl) (Kept.of0 hm) ?_
    refine VD.turn1 11 (by kernel_rfl) ?_
    refine VDT.val rfl rfl rfl (r_load (v := .slice _ _ _) Try.isAgg22 rfl (hm.at_ 1 0 rfl) rfl) (Kept.of0 hm) ?_
    refine VD.pure 12 rfl (by kernel_rfl) rfl rfl (p_len Try.underlying22 rfl) ?_
    refine VD.pure 17 rfl (by kernel_rfl) rfl rfl (p_sub64 rfl rfl (by omega)) ?_
    refine VD.pure 18 rfl (by kernel_rfl) rfl rfl (p_min rfl rfl) ?_
    refine VD.pure 19 rfl (by kernel_rfl) rfl rfl (p_add64E (r := ((keepN keep f.abs : Nat) : Int)) rfl rfl hke.symm (by omega)) ?_
    refine VD.turn1 20 (by kernel_rfl) ?_
    refine VDT.call rfl rfl rfl (r_call3 Try.call44 rfl rfl rfl) (cutf_c (used := used) hf hkl (by omega) hm) ?_
    rintro v w hm
    refine ⟨Kept.of0 hm, ?_⟩
    refine VD.nil (by kernel_rfl) rfl ?_
    rotate_left 1
    refine VDT.val rfl rfl rfl (r_load (v := .slice _ _ _) Try.isAgg22 rfl (hm.at_ 1 0 rfl) rfl) (Kept.of0 hm) ?_
    refine VD.pure 12 rfl (by kernel_rfl) rfl rfl (p_len Try.underlying22 rfl) ?_
    refine VD.pure 17 rfl (by kernel_rfl) rfl rfl (p_sub64 rfl rfl (by omega)) ?_
    refine VD.pure 18 rfl (by kernel_rfl) rfl rfl (p_min rfl rfl) ?_
    refine VD.turn1 5 (by kernel_rfl) ?_
    refine VDT.val rfl rfl rfl (r_load (v := .int _ _) Try.isAgg3 rfl (hm.at_ 1 0 rfl) rfl) (Kept.of0 hm) ?_
    refine VD.pure 19 rfl (by kernel_rfl) rfl rfl (p_add64E (r := ((keepN keep f.abs : Nat) : Int)) rfl rfl hke.symm (by omega)) ?_
    refine VD.turn1 20 (by kernel_rfl) ?_
    refine VDT.call rfl rfl rfl (r_call3 Try.call44 rfl rfl rfl) (cutf_c (used := used) hf hkl (by omega) hm) ?_
    rintro v w hm
    refine ⟨Kept.of0 hm, ?_⟩
    refine VD.nil (by kernel_rfl) rfl ?_
    rotate_left 1
    all_goals
      repeat (first | refine VC.seq ?_ | refine VC.block ?_ | refine VC.skip ?_)
      have hok := hf.cut hkl
      obtain ⟨hD2, hents2⟩ := hD1.turn hi (f' := { f with l := f.l.take (keepN keep f.abs), sy := keepN keep f.abs, n := keepN keep f.abs, c := keepN keep f.abs }) rfl rfl rfl hok (used := used - (f.n - keepN keep f.abs)) (by show _ = used - f.n + (keepN keep f.abs : Nat); omega) (by show used - _ ≤ D.room; omega)
      refine ⟨(seen.push f.ent.born, used - (f.n - keepN keep f.abs), fs.set i { f with l := f.l.take (keepN keep f.abs), sy := keepN keep f.abs, n := keepN keep f.abs, c := keepN keep f.abs }), ⟨rfl, rfl, rfl, trivial⟩, ⟨?_, hD2, hents2.trans hents', ?_⟩, ?_⟩
      · have h1 := (((hm.pull 1 rfl).pull 3 rfl).pull 2 rfl).pull 3 rfl
        have h2 := Mem.closeP (Ps := [[(r, _)], [(g, _)], [(m, _)]]) { f with l := f.l.take (keepN keep f.abs), sy := keepN keep f.abs, n := keepN keep f.abs, c := keepN keep f.abs } h1 hi
        unfold dkB Dk.map
        dsimp only
        rw [show Dk.ents ⟨D.room, used - (f.n - keepN keep f.abs), D.clock, fs.set i { f with l := f.l.take (keepN keep f.abs), sy := keepN keep f.abs, n := keepN keep f.abs, c := keepN keep f.abs }⟩ = D.ents from hents2.trans hents']
        exact h2
      · dsimp only
        rw [List.map_set, habs]
        refine set_eq_map (γ := Unit) hi0 ?_ fun j z hz hji => ?_
        · unfold crashed
          rw [if_pos (by rw [hb0]; simp), ha0]
          rfl
        · unfold crashed
          have hne : z.born ≠ f.born := by rw [← hb0]; exact hapart j i z f0 hz hi0 hji
          have hiff : z.born ∈ (seen.push f.ent.born).toList ↔ z.born ∈ seen.toList := by simp [hne]
          by_cases hz' : z.born ∈ seen.toList
          · rw [if_pos (hiff.2 hz'), if_pos hz']
          · rw [if_neg (fun h => hz' (hiff.1 h)), if_neg hz']
      · exact unseen_lt (List.mem_map.2 ⟨f.ent, he, rfl⟩) hn
end Go.Bd
