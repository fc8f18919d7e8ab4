/- Contracts of layer 8: a new disk, remove, rename, used. Conditions: as each states. -/
import Derived.Test.Ytjohjlhjeommiaa08c
namespace Go.Bd
open Go.Proofs
set_option linter.unusedVariables false
set_option maxRecDepth 20000

theorem new_c {F : Env} {w : World} {Ls : List Blks} {room : Int} (hm : Mem F w Ls) (hr : room ≤ 9223372036854775807) :
    Calls Try.prog 11 #[.int .i64 room] w (Ret fun v w' => ∃ g m D, v = .pointer (some ⟨g, 0, none⟩) ∧ D.abs = ⟨max room 0, []⟩ ∧ DkOk D ∧ Mem F w' (dkB g m D ++ Ls)) := by
  refine Calls.of_vc Try.func11 rfl Try.ntmps11 rfl ?_
  repeat (first | refine VC.seq ?_ | refine VC.block ?_ | refine VC.skip ?_)
  refine VC.region ?_
  refine VR.pure rfl rfl (p_assignP rfl) ?_
  refine VR.nil ?_
  repeat (first | refine VC.seq ?_ | refine VC.block ?_ | refine VC.skip ?_)
  refine VC.region ?_
  refine VR.pure rfl rfl (p_moveI rfl) ?_
  refine VR.pure rfl rfl (p_max rfl rfl) ?_
  refine VR.new hm rfl rfl (n_makeMap) ?_
  intro m w hm
  refine VR.pure rfl rfl (p_build (vs := [(0, .int _ _), (2, .map _)]) bld63_0_2 rfl) ?_
  refine VR.new hm rfl rfl (n_boxG rfl) ?_
  intro g w hm
  refine VR.pure rfl rfl (p_assignP rfl) ?_
  refine VR.nil ?_
  repeat (first | refine VC.seq ?_ | refine VC.block ?_ | refine VC.skip ?_)
  refine VC.ret ⟨_, ResOf.r1 (v := .pointer _) rfl rfl, ?_⟩
  exact ⟨g, m, ⟨max room 0, 0, 0, []⟩, rfl, rfl, ⟨Ents.nil _ _, by simp, rfl, ⟨by show (0 : Int) ≤ max room 0; omega, by show max room 0 ≤ _; omega⟩, by simp⟩, hm⟩
theorem used_c {F : Env} {w : World} {g m : Nat} {D : Dk} (hm : Mem F w (dkB g m D)) (hD : DkOk D) :
    Calls Try.prog 24 #[.pointer (some ⟨g, 0, none⟩)] w (Ret fun v w' => v = .int .i64 (sumL D.abs.fs) ∧ Mem F w' (dkB g m D)) := by
  have hsum : sumL D.abs.fs = D.used := hD.used.symm
  rw [hsum]
  unfold dkB at hm ⊢
  refine Calls.of_vc Try.func24 rfl Try.ntmps24 rfl ?_
  repeat (first | refine VC.seq ?_ | refine VC.block ?_ | refine VC.skip ?_)
  refine VC.region ?_
  refine VR.pure rfl rfl (p_assignI rfl) ?_
  refine VR.nil ?_
  repeat (first | refine VC.seq ?_ | refine VC.block ?_ | refine VC.skip ?_)
  refine VC.region ?_
  refine VR.pure rfl rfl (p_moveP rfl) ?_
  refine VR.call rfl rfl (r_call1 Try.call40 rfl) (made_c hm) ?_
  rintro _ w ⟨rfl, hm⟩
  refine VR.pure rfl rfl (p_not rfl) ?_
  refine VR.nil ?_
  repeat (first | refine VC.seq ?_ | refine VC.block ?_ | refine VC.skip ?_)
  refine VC.condF rfl rfl ?_
  repeat (first | refine VC.seq ?_ | refine VC.block ?_ | refine VC.skip ?_)
  refine VC.region ?_
  refine VR.pure rfl rfl (p_moveP rfl) ?_
  refine VR.pure rfl rfl (p_nilCheck rfl) ?_
  refine VR.pure rfl rfl (p_field (fo := 1) Try.underlying63 rfl Try.sizeOf3 rfl rfl rfl) ?_
  refine VR.val rfl rfl (r_load (v := .int _ _) Try.isAgg3 rfl (hm.at_ 0 0 rfl) rfl) ?_
  refine VR.pure rfl rfl (p_assignI rfl) ?_
  refine VR.nil ?_
  repeat (first | refine VC.seq ?_ | refine VC.block ?_ | refine VC.skip ?_)
  refine VC.ret ⟨_, ResOf.r1 (v := .int _ _) rfl rfl, ?_⟩
  exact ⟨rfl, hm⟩

def delFl (fs : List Fl) (s : ByteArray) : List Fl := fs.filter fun f => decide (f.name ≠ s)
theorem delFl_abs (fs : List Fl) (s : ByteArray) : (delFl fs s).map Fl.abs = delA (fs.map Fl.abs) s := by
  unfold delFl delA
  rw [List.filter_map]
  rfl
theorem delFl_none {fs : List Fl} {s : ByteArray} (h : ∀ f ∈ fs, f.name ≠ s) : delFl fs s = fs := List.filter_eq_self.2 fun f hf => decide_eq_true (h f hf)
theorem delFl_at : ∀ {fs : List Fl} {i : Nat} {f : Fl}, fs.Pairwise (fun x y => x.name ≠ y.name) → fs[i]? = some f → delFl fs f.name = fs.eraseIdx i
  | [], _, _, _, h => by simp at h
  | x :: r, 0, f, hp, h => by
    obtain rfl := Option.some.inj (show some x = some f from h)
    obtain ⟨h1, h2⟩ := List.pairwise_cons.1 hp
    show List.filter _ (x :: r) = r
    rw [List.filter_cons_of_neg (by simp)]
    exact delFl_none fun f hf => (h1 f hf).symm
  | x :: r, i + 1, f, hp, h => by
    obtain ⟨h1, h2⟩ := List.pairwise_cons.1 hp
    have hf : f ∈ r := List.mem_of_getElem? (show r[i]? = some f from h)
    show List.filter _ (x :: r) = x :: r.eraseIdx i
    rw [List.filter_cons_of_pos (by simpa using h1 f hf)]
    exact congrArg _ (delFl_at (i := i) h2 h)
theorem DkOk.namesApart {D : Dk} (h : DkOk D) : D.fs.Pairwise fun x y => x.name ≠ y.name := by
  have h1 := h.ents.apart
  rw [List.pairwise_map] at h1
  exact h1.imp fun hne e => hne (congrArg Value.string e)
theorem map_erase {α β : Type} (f : α → β) : ∀ (l : List α) (i : Nat), (l.eraseIdx i).map f = (l.map f).eraseIdx i
  | [], _ => by simp
  | x :: r, 0 => by simp
  | x :: r, i + 1 => by
    show f x :: (r.eraseIdx i).map f = f x :: (r.map f).eraseIdx i
    rw [map_erase f r i]
theorem DkOk.less {D : Dk} (h : DkOk D) {i : Nat} {f : Fl} (hi : D.fs[i]? = some f) : DkOk ⟨D.room, D.used - f.n, D.clock, D.fs.eraseIdx i⟩ ∧ (f.n : Int) ≤ D.used := by
  have hf := h.files f (List.mem_of_getElem? hi)
  have hsub : (D.fs.eraseIdx i).Sublist D.fs := List.eraseIdx_sublist _ _
  have p2 := sumL_perm ((perm_out hi).map Fl.abs)
  have e2 : sumL ((f :: D.fs.eraseIdx i).map Fl.abs) = (f.l.length : Int) + sumL ((D.fs.eraseIdx i).map Fl.abs) := rfl
  have l2 := hf.len
  have hu := h.used
  have hn := sumL_nonneg ((D.fs.eraseIdx i).map Fl.abs)
  have hr := h.room
  refine ⟨⟨?_, fun x hx => h.files x (hsub.subset hx), ?_, ⟨by show D.used - f.n ≤ D.room; omega, hr.2⟩, fun x hx => h.names x (hsub.subset hx)⟩, by omega⟩
  · exact h.ents.sub (hsub.map _)
  · show D.used - f.n = sumL ((D.fs.eraseIdx i).map Fl.abs)
    omega

set_option maxHeartbeats 1000000 in
theorem remove_c {F : Env} {w : World} {g m : Nat} {D : Dk} {s : ByteArray} (hm : Mem F w (dkB g m D)) (hD : DkOk D) :
    Calls Try.prog 23 #[.pointer (some ⟨g, 0, none⟩), .string s] w (Ret fun v w' => ∃ used, v = .int .i64 (remD D.abs s).1 ∧ DkOk ⟨D.room, used, D.clock, delFl D.fs s⟩ ∧ Mem F w' (dkB g m ⟨D.room, used, D.clock, delFl D.fs s⟩)) := by
  refine Calls.of_vc Try.func23 rfl Try.ntmps23 rfl ?_
  repeat (first | refine VC.seq ?_ | refine VC.block ?_ | refine VC.skip ?_)
  refine VC.region ?_
  refine VR.pure rfl rfl (p_assignI rfl) ?_
  refine VR.nil ?_
  rcases hit_or (fs := D.fs) s with ⟨i, f, hi, rfl⟩ | hno
  · have hf := hD.files f (List.mem_of_getElem? hi)
    have hroom := hD.room
    have he : D.ents[i]? = some f.ent := by rw [List.getElem?_map, hi]; rfl
    obtain ⟨hD', hle⟩ := hD.less hi
    have hrem : remD D.abs f.name = (0, ⟨D.room, delA D.abs.fs f.name⟩) := by
      unfold remD
      rw [hD.in_ hi]
      rfl
    rw [hrem, delFl_at hD.namesApart hi]
    repeat (first | refine VC.seq ?_ | refine VC.block ?_ | refine VC.skip ?_)
    refine VC.region ?_
    refine VR.pure rfl rfl (p_moveP rfl) ?_
    refine VR.pure rfl rfl (p_moveZ rfl) ?_
    refine VR.call rfl rfl (r_call2 Try.call42 rfl rfl) (find_hit_c hm hD hi) ?_
    rintro _ w ⟨rfl, hm⟩
    refine VR.pure rfl rfl (p_moveT rfl) ?_
    refine VR.pure rfl rfl (p_extract rfl rfl) ?_
    refine VR.pure rfl rfl (p_extract rfl rfl) ?_
    refine VR.pure rfl rfl (p_assignP rfl) ?_
    refine VR.pure rfl rfl (p_assignI rfl) ?_
    refine VR.nil ?_
    repeat (first | refine VC.seq ?_ | refine VC.block ?_ | refine VC.skip ?_)
    refine VC.region ?_
    refine VR.pure rfl rfl (p_moveI rfl) ?_
    refine VR.pure rfl rfl (p_eq rfl rfl) ?_
    refine VR.nil ?_
    repeat (first | refine VC.seq ?_ | refine VC.block ?_ | refine VC.skip ?_)
    refine VC.condT rfl (decide_eq_true rfl) ?_
    unfold dkB at hm
    replace hm := hm.openF hi
    repeat (first | refine VC.seq ?_ | refine VC.block ?_ | refine VC.skip ?_)
    refine VC.free (Kept F ([(f.blk, f.obj)] :: [])) [3, 12] rfl (by kernel_rfl) (Kept.one hm.drew 2 rfl) ?_
    replace hm := hm.drew
    refine VD.pure 0 rfl (by kernel_rfl) rfl rfl (p_moveP rfl) ?_
    refine VD.pure 1 rfl (by kernel_rfl) rfl rfl (p_nilCheck rfl) ?_
    refine VD.pure 2 rfl (by kernel_rfl) rfl rfl (p_field (fo := 1) Try.underlying63 rfl Try.sizeOf3 rfl rfl rfl) ?_
    refine VD.pure 4 rfl (by kernel_rfl) rfl rfl (p_moveP rfl) ?_
    refine VD.pure 5 rfl (by kernel_rfl) rfl rfl (p_nilCheck rfl) ?_
    refine VD.pure 6 rfl (by kernel_rfl) rfl rfl (p_field (fo := 0) Try.underlying68 rfl Try.sizeOf22 rfl rfl rfl) ?_
    refine VD.read 7 rfl (by kernel_rfl) rfl rfl (fun w' hw' => r_load (v := .slice _ _ _) Try.isAgg22 rfl (hw'.at_ 0 0 rfl) rfl) ?_
    refine VD.pure 8 rfl (by kernel_rfl) rfl rfl (p_len Try.underlying22 rfl) ?_
    refine VD.turn1 3 (by kernel_rfl) ?_
    refine VDT.val rfl rfl rfl (r_load (v := .int _ _) Try.isAgg3 rfl (hm.at_ 0 0 rfl) rfl) (Kept.one hm 2 rfl) ?_
    refine VD.pure 9 rfl (by kernel_rfl) rfl rfl (p_sub64 rfl rfl (by omega)) ?_
    refine VD.pure 10 rfl (by kernel_rfl) rfl rfl (p_nilCheck rfl) ?_
    refine VD.pure 11 rfl (by kernel_rfl) rfl rfl (p_field (fo := 1) Try.underlying63 rfl Try.sizeOf3 rfl rfl rfl) ?_
    refine VD.turn1 12 (by kernel_rfl) ?_
    refine VDT.store (cs' := #[.int .i64 D.room, .int .i64 (D.used - f.n), .map (some m)]) (v := .int _ _) Try.sizeOf3 rfl rfl rfl rfl rfl rfl hm 0 0 rfl (Nat.ble_eq.mp rfl) rfl (fun w' hm' => Kept.one hm' 2 rfl) ?_
    intro w hm
    refine VD.nil (by kernel_rfl) rfl ?_
    repeat (first | refine VC.seq ?_ | refine VC.block ?_ | refine VC.skip ?_)
    refine VC.region ?_
    refine VR.pure rfl rfl (p_moveP rfl) ?_
    refine VR.pure rfl rfl (p_nilCheck rfl) ?_
    refine VR.pure rfl rfl (p_field (fo := 2) Try.underlying63 rfl Try.sizeOf61 rfl rfl rfl) ?_
    refine VR.val rfl rfl (r_load (v := .map _) Try.isAgg61 rfl (hm.at_ 0 0 rfl) rfl) ?_
    refine VR.pure rfl rfl (p_moveZ rfl) ?_
    refine VR.deleteHit (u := .string _) Try.underlying61 Try.underlying9 rfl rfl rfl rfl hm 1 0 rfl hD.ents he rfl ?_
    intro w hm
    refine VR.nil ?_
    repeat (first | refine VC.seq ?_ | refine VC.block ?_ | refine VC.skip ?_)
    refine VC.region ?_
    refine VR.pure rfl rfl (p_moveI rfl) ?_
    refine VR.pure rfl rfl (p_assignI rfl) ?_
    refine VR.nil ?_
    repeat (first | refine VC.seq ?_ | refine VC.block ?_ | refine VC.skip ?_)
    refine VC.ret ⟨_, ResOf.r1 (v := .int _ _) rfl rfl, ?_⟩
    refine ⟨D.used - f.n, rfl, hD', ?_⟩
    unfold dkB Dk.map Dk.ents
    rw [map_erase]
    exact ((hm.pull 2 rfl).pop.pull 2 rfl).pop
  · have hrem : remD D.abs s = (6, D.abs) := by
      unfold remD
      rw [show inA D.abs.fs s = none from inA_none (Dk.out hno)]
    rw [hrem, delFl_none hno]
    repeat (first | refine VC.seq ?_ | refine VC.block ?_ | refine VC.skip ?_)
    refine VC.region ?_
    refine VR.pure rfl rfl (p_moveP rfl) ?_
    refine VR.pure rfl rfl (p_moveZ rfl) ?_
    refine VR.call rfl rfl (r_call2 Try.call42 rfl rfl) (find_miss_c hm hD hno) ?_
    rintro _ w ⟨rfl, hm⟩
    refine VR.pure rfl rfl (p_moveT rfl) ?_
    refine VR.pure rfl rfl (p_extract rfl rfl) ?_
    refine VR.pure rfl rfl (p_extract rfl rfl) ?_
    refine VR.pure rfl rfl (p_assignP rfl) ?_
    refine VR.pure rfl rfl (p_assignI rfl) ?_
    refine VR.nil ?_
    repeat (first | refine VC.seq ?_ | refine VC.block ?_ | refine VC.skip ?_)
    refine VC.region ?_
    refine VR.pure rfl rfl (p_moveI rfl) ?_
    refine VR.pure rfl rfl (p_eq rfl rfl) ?_
    refine VR.nil ?_
    repeat (first | refine VC.seq ?_ | refine VC.block ?_ | refine VC.skip ?_)
    refine VC.condF rfl (decide_eq_false (by omega)) ?_
    repeat (first | refine VC.seq ?_ | refine VC.block ?_ | refine VC.skip ?_)
    refine VC.region ?_
    refine VR.pure rfl rfl (p_moveI rfl) ?_
    refine VR.pure rfl rfl (p_assignI rfl) ?_
    refine VR.nil ?_
    repeat (first | refine VC.seq ?_ | refine VC.block ?_ | refine VC.skip ?_)
    refine VC.ret ⟨_, ResOf.r1 (v := .int _ _) rfl rfl, ?_⟩
    exact ⟨D.used, rfl, hD, hm⟩

theorem name_size {s : ByteArray} (h : nameOk s = true) : s.size ≤ 30 := by
  unfold nameOk at h
  simp only [Bool.and_eq_true, decide_eq_true_eq] at h
  exact h.2
set_option maxHeartbeats 2000000 in
theorem rename_c {F : Env} {w : World} {g m : Nat} {D : Dk} {s t : ByteArray} (hm : Mem F w (dkB g m D)) (hD : DkOk D) (hs : s.size ≤ maxLen) (ht : t.size ≤ maxLen) :
    Calls Try.prog 18 #[.pointer (some ⟨g, 0, none⟩), .string s, .string t] w (Ret (Step F g m (renD D.abs s t))) := by
  refine Calls.of_vc Try.func18 rfl Try.ntmps18 rfl ?_
  repeat (first | refine VC.seq ?_ | refine VC.block ?_ | refine VC.skip ?_)
  refine VC.region ?_
  refine VR.pure rfl rfl (p_assignI rfl) ?_
  refine VR.nil ?_
  repeat (first | refine VC.seq ?_ | refine VC.block ?_ | refine VC.skip ?_)
  refine VC.region ?_
  refine VR.pure rfl rfl (p_moveP rfl) ?_
  refine VR.call rfl rfl (r_call1 Try.call40 rfl) (made_c hm) ?_
  rintro _ w ⟨rfl, hm⟩
  refine VR.pure rfl rfl (p_moveB rfl) ?_
  refine VR.knownT 11 rfl rfl ?_
  refine VR.pureG rfl rfl (p_moveZ rfl) ?_
  refine VR.callG rfl rfl (r_call1 Try.call41 rfl) (named_c hm hs) ?_
  rintro _ w ⟨rfl, hm⟩
  refine VR.pureG rfl rfl (p_not rfl) ?_
  refine VR.pureG rfl rfl (p_moveB rfl) ?_
  refine VR.splitB 15 rfl (fun h6 => ?_) (fun h6 => ?_)
  refine VR.pass rfl rfl ?_
  refine VR.pass rfl rfl ?_
  refine VR.pass rfl rfl ?_
  refine VR.pureG rfl rfl (p_pickT rfl rfl) ?_
  refine VR.pure rfl rfl (p_pickT rfl rfl) ?_
  refine VR.nil ?_
  rotate_left 1
  refine VR.pureG rfl rfl (p_moveZ rfl) ?_
  refine VR.callG rfl rfl (r_call1 Try.call41 rfl) (named_c hm ht) ?_
  rintro _ w ⟨rfl, hm⟩
  refine VR.pureG rfl rfl (p_not rfl) ?_
  refine VR.pureG rfl rfl (p_pickF rfl rfl) ?_
  refine VR.pure rfl rfl (p_pickT rfl rfl) ?_
  refine VR.nil ?_
  rotate_left 1
  · repeat (first | refine VC.seq ?_ | refine VC.block ?_ | refine VC.skip ?_)
    refine VC.condT rfl rfl ?_
    repeat (first | refine VC.seq ?_ | refine VC.block ?_ | refine VC.skip ?_)
    refine VC.region ?_
    refine VR.pure rfl rfl (p_assignI rfl) ?_
    refine VR.nil ?_
    repeat (first | refine VC.seq ?_ | refine VC.block ?_ | refine VC.skip ?_)
    refine VC.ret ⟨_, ResOf.r1 (v := .int _ _) rfl rfl, ?_⟩
    have h7 : ¬ (nameOk s = true ∧ nameOk t = true) := fun h => by rw [h.1] at h6; cases h6
    unfold renD
    rw [if_neg h7]
    exact ⟨D, rfl, rfl, hD, hm⟩
  · have h7 : nameOk s = true := by simpa using h6
    by_cases h8 : nameOk t = true
    · repeat (first | refine VC.seq ?_ | refine VC.block ?_ | refine VC.skip ?_)
      refine VC.condF rfl (by rw [h8]; rfl) ?_
      have hss := name_size h7
      have htt := name_size h8
      rcases hit_or (fs := D.fs) s with ⟨i, f, hi, rfl⟩ | hno
      · have hren : renD D.abs f.name t = if f.name = t then (0, D.abs) else (0, ⟨D.room, delA (delA D.abs.fs t) f.name ++ [(t, f.l, f.sy)]⟩) := by
          unfold renD
          rw [if_pos ⟨h7, h8⟩, hD.in_ hi]
          rfl
        rw [hren]
        repeat (first | refine VC.seq ?_ | refine VC.block ?_ | refine VC.skip ?_)
        refine VC.region ?_
        refine VR.pure rfl rfl (p_moveP rfl) ?_
        refine VR.pure rfl rfl (p_moveZ rfl) ?_
        refine VR.call rfl rfl (r_call2 Try.call42 rfl rfl) (find_hit_c hm hD hi) ?_
        rintro _ w ⟨rfl, hm⟩
        refine VR.pure rfl rfl (p_moveT rfl) ?_
        refine VR.pure rfl rfl (p_extract rfl rfl) ?_
        refine VR.pure rfl rfl (p_extract rfl rfl) ?_
        refine VR.pure rfl rfl (p_assignP rfl) ?_
        refine VR.pure rfl rfl (p_assignI rfl) ?_
        refine VR.nil ?_
        repeat (first | refine VC.seq ?_ | refine VC.block ?_ | refine VC.skip ?_)
        refine VC.region ?_
        refine VR.pure rfl rfl (p_moveI rfl) ?_
        refine VR.pure rfl rfl (p_ne rfl rfl) ?_
        refine VR.nil ?_
        repeat (first | refine VC.seq ?_ | refine VC.block ?_ | refine VC.skip ?_)
        refine VC.condF rfl (decide_eq_false (not_not_intro rfl)) ?_
        repeat (first | refine VC.seq ?_ | refine VC.block ?_ | refine VC.skip ?_)
        refine VC.region ?_
        refine VR.pure rfl rfl (p_moveZ rfl) ?_
        refine VR.pure rfl rfl (p_moveZ rfl) ?_
        refine VR.pure rfl rfl (p_eqS rfl rfl) ?_
        refine VR.nil ?_
        repeat (first | refine VC.seq ?_ | refine VC.block ?_ | refine VC.skip ?_)
        refine VC.condD rfl (fun h9 => ?_) (fun h9 => ?_)
        · repeat (first | refine VC.seq ?_ | refine VC.block ?_ | refine VC.skip ?_)
          refine VC.region ?_
          refine VR.pure rfl rfl (p_assignI rfl) ?_
          refine VR.nil ?_
          repeat (first | refine VC.seq ?_ | refine VC.block ?_ | refine VC.skip ?_)
          refine VC.ret ⟨_, ResOf.r1 (v := .int _ _) rfl rfl, ?_⟩
          rw [if_pos (str_eq.1 h9)]
          exact ⟨D, rfl, rfl, hD, hm⟩
        · have hne : f.name ≠ t := fun e => h9 (str_eq.2 e)
          rw [if_neg hne]
          repeat (first | refine VC.seq ?_ | refine VC.block ?_ | refine VC.skip ?_)
          refine VC.region ?_
          refine VR.pure rfl rfl (p_moveP rfl) ?_
          refine VR.pure rfl rfl (p_moveZ rfl) ?_
          refine VR.call rfl rfl (r_call2 Try.call23 rfl rfl) (remove_c hm hD) ?_
          rintro _ w ⟨used1, rfl, hD1, hm⟩
          refine VR.nil ?_
          have hfm : f ∈ delFl D.fs t := List.mem_filter.2 ⟨List.mem_of_getElem? hi, decide_eq_true hne⟩
          obtain ⟨j, hj⟩ : ∃ j, (delFl D.fs t)[j]? = some f := by
            obtain ⟨j, hj, e⟩ := List.mem_iff_getElem.1 hfm
            exact ⟨j, by rw [List.getElem?_eq_getElem hj, e]⟩
          have hf := hD1.files f hfm
          have he : (Dk.ents ⟨D.room, used1, D.clock, delFl D.fs t⟩)[j]? = some f.ent := by rw [List.getElem?_map, hj]; rfl
          have hsub : ((delFl D.fs t).eraseIdx j).Sublist (delFl D.fs t) := List.eraseIdx_sublist _ _
          have hE2 : Ents .string ((Dk.ents ⟨D.room, used1, D.clock, delFl D.fs t⟩).eraseIdx j) D.clock := hD1.ents.sub (List.eraseIdx_sublist _ _)
          have hn2 : ∀ x ∈ (Dk.ents ⟨D.room, used1, D.clock, delFl D.fs t⟩).eraseIdx j, x.key ≠ .string t := fun x hx e => by
            have hx' := (List.eraseIdx_sublist _ _).subset hx
            obtain ⟨y, hy, rfl⟩ := List.mem_map.1 hx'
            have h1 := (List.mem_filter.1 hy).2
            have h2 : y.name = t := by injection e
            simp [h2] at h1
          unfold dkB at hm
          replace hm := hm.openF hj
          repeat (first | refine VC.seq ?_ | refine VC.block ?_ | refine VC.skip ?_)
          refine VC.region ?_
          refine VR.pure rfl rfl (p_moveP rfl) ?_
          refine VR.pure rfl rfl (p_nilCheck rfl) ?_
          refine VR.pure rfl rfl (p_field (fo := 2) Try.underlying63 rfl Try.sizeOf61 rfl rfl rfl) ?_
          refine VR.val rfl rfl (r_load (v := .map _) Try.isAgg61 rfl (hm.at_ 0 0 rfl) rfl) ?_
          refine VR.pure rfl rfl (p_moveZ rfl) ?_
          refine VR.deleteHit (u := .string _) Try.underlying61 Try.underlying9 rfl rfl rfl rfl hm 1 0 rfl hD1.ents he rfl ?_
          intro w hm
          refine VR.nil ?_
          repeat (first | refine VC.seq ?_ | refine VC.block ?_ | refine VC.skip ?_)
          refine VC.region ?_
          refine VR.pure rfl rfl (p_moveP rfl) ?_
          refine VR.pure rfl rfl (p_nilCheck rfl) ?_
          refine VR.pure rfl rfl (p_field (fo := 2) Try.underlying63 rfl Try.sizeOf61 rfl rfl rfl) ?_
          refine VR.val rfl rfl (r_load (v := .map _) Try.isAgg61 rfl (hm.at_ 0 0 rfl) rfl) ?_
          refine VR.pure rfl rfl (p_moveZ rfl) ?_
          refine VR.pure rfl rfl (p_moveP rfl) ?_
          refine VR.updateMiss (u := .string _) (v := .pointer _) Try.underlying61 Try.underlying9 rfl rfl rfl rfl hm 1 0 rfl hE2 trivial hn2 ?_
          intro w hm
          refine VR.nil ?_
          repeat (first | refine VC.seq ?_ | refine VC.block ?_ | refine VC.skip ?_)
          refine VC.region ?_
          refine VR.pure rfl rfl (p_assignI rfl) ?_
          refine VR.nil ?_
          repeat (first | refine VC.seq ?_ | refine VC.block ?_ | refine VC.skip ?_)
          refine VC.ret ⟨_, ResOf.r1 (v := .int _ _) rfl rfl, ?_⟩
          simp only [mset, bset] at hm
          obtain ⟨hless, _⟩ := hD1.less hj
          refine ⟨⟨D.room, used1, D.clock + 1, (delFl D.fs t).eraseIdx j ++ [{ f with name := t, born := D.clock }]⟩, rfl, ?_, ⟨?_, fun x hx => ?_, ?_, hD1.room, fun x hx => ?_⟩, ?_⟩
          · show Da.mk D.room (((delFl D.fs t).eraseIdx j ++ [_]).map Fl.abs) = _
            rw [List.map_append, ← delFl_at hD1.namesApart hj, delFl_abs, delFl_abs]
            rfl
          · show Ents .string (((delFl D.fs t).eraseIdx j ++ [_]).map Fl.ent) (D.clock + 1)
            rw [List.map_append, map_erase]
            exact hE2.push trivial hn2
          · rcases List.mem_append.1 hx with hx | hx
            · exact hD1.files x (hsub.subset hx)
            · rw [List.mem_singleton.1 hx]
              exact ⟨hf.own, hf.n, hf.sy⟩
          · show used1 = sumL (((delFl D.fs t).eraseIdx j ++ [_]).map Fl.abs)
            rw [List.map_append, sumL_app]
            have h1 := hless.used
            have h2 := hf.len
            show used1 = _ + ((f.l.length : Int) + 0)
            have h3 : used1 - f.n = sumL (((delFl D.fs t).eraseIdx j).map Fl.abs) := h1
            omega
          · rcases List.mem_append.1 hx with hx | hx
            · exact hD1.names x (hsub.subset hx)
            · rw [List.mem_singleton.1 hx]
              exact htt
          · have h4 := Mem.closeNew { f with name := t, born := D.clock } hm
            unfold dkB Dk.map Dk.ents
            rw [List.map_append (f := Fl.ent), map_erase]
            exact h4
      · have hren : renD D.abs s t = (6, D.abs) := by
          unfold renD
          rw [if_pos ⟨h7, h8⟩, show inA D.abs.fs s = none from inA_none (Dk.out hno)]
        rw [hren]
        repeat (first | refine VC.seq ?_ | refine VC.block ?_ | refine VC.skip ?_)
        refine VC.region ?_
        refine VR.pure rfl rfl (p_moveP rfl) ?_
        refine VR.pure rfl rfl (p_moveZ rfl) ?_
        refine VR.call rfl rfl (r_call2 Try.call42 rfl rfl) (find_miss_c hm hD hno) ?_
        rintro _ w ⟨rfl, hm⟩
        refine VR.pure rfl rfl (p_moveT rfl) ?_
        refine VR.pure rfl rfl (p_extract rfl rfl) ?_
        refine VR.pure rfl rfl (p_extract rfl rfl) ?_
        refine VR.pure rfl rfl (p_assignP rfl) ?_
        refine VR.pure rfl rfl (p_assignI rfl) ?_
        refine VR.nil ?_
        repeat (first | refine VC.seq ?_ | refine VC.block ?_ | refine VC.skip ?_)
        refine VC.region ?_
        refine VR.pure rfl rfl (p_moveI rfl) ?_
        refine VR.pure rfl rfl (p_ne rfl rfl) ?_
        refine VR.nil ?_
        repeat (first | refine VC.seq ?_ | refine VC.block ?_ | refine VC.skip ?_)
        refine VC.condT rfl (decide_eq_true (by omega)) ?_
        repeat (first | refine VC.seq ?_ | refine VC.block ?_ | refine VC.skip ?_)
        refine VC.region ?_
        refine VR.pure rfl rfl (p_moveI rfl) ?_
        refine VR.pure rfl rfl (p_assignI rfl) ?_
        refine VR.nil ?_
        repeat (first | refine VC.seq ?_ | refine VC.block ?_ | refine VC.skip ?_)
        refine VC.ret ⟨_, ResOf.r1 (v := .int _ _) rfl rfl, ?_⟩
        exact ⟨D, rfl, rfl, hD, hm⟩
    · repeat (first | refine VC.seq ?_ | refine VC.block ?_ | refine VC.skip ?_)
      refine VC.condT rfl (by rw [Bool.not_eq_true _ |>.mp h8]; rfl) ?_
      repeat (first | refine VC.seq ?_ | refine VC.block ?_ | refine VC.skip ?_)
      refine VC.region ?_
      refine VR.pure rfl rfl (p_assignI rfl) ?_
      refine VR.nil ?_
      repeat (first | refine VC.seq ?_ | refine VC.block ?_ | refine VC.skip ?_)
      refine VC.ret ⟨_, ResOf.r1 (v := .int _ _) rfl rfl, ?_⟩
      unfold renD
      rw [if_neg (fun h => h8 h.2)]
      exact ⟨D, rfl, rfl, hD, hm⟩
end Go.Bd
