/- Contracts of layer 8: what is done to a disk, as functions of what it holds. Conditions: as each states. -/
import Derived.Test.Ytjohjlhjeommiaa08a
namespace Go.Bd
open Go.Proofs
set_option linter.unusedVariables false
set_option maxRecDepth 20000

/-! ### What is done, as functions -/
structure Da where
  room : Int
  fs : List Fa
def Dk.abs (D : Dk) : Da := ⟨D.room, D.fs.map Fl.abs⟩
def inA (fs : List Fa) (s : ByteArray) : Option Fa := fs.find? fun f => decide (f.1 = s)
def updA (fs : List Fa) (s : ByteArray) (u : Fa → Fa) : List Fa := fs.map fun f => if f.1 = s then u f else f
def delA (fs : List Fa) (s : ByteArray) : List Fa := fs.filter fun f => decide (f.1 ≠ s)
def cutF (k : Nat) (f : Fa) : Fa := (f.1, f.2.1.take k, k)
def keepN (keep : Int) (f : Fa) : Nat := (f.2.2 + min (max keep 0) ((f.2.1.length : Int) - f.2.2)).toNat
def appD (d : Da) (s : ByteArray) (b : List Int) : Int × Da :=
  if nameOk s = true then
    match inA d.fs s with
    | some f => if 4194304 < f.2.1.length + b.length then (3, d) else if d.room - sumL d.fs < b.length then (5, d) else (0, ⟨d.room, updA d.fs s fun f => (f.1, f.2.1 ++ b, f.2.2)⟩)
    | none => if 4194304 < b.length then (3, d) else if d.room - sumL d.fs < b.length then (5, d) else (0, ⟨d.room, d.fs ++ [(s, b, 0)]⟩)
  else (2, d)
def syncD (d : Da) (s : ByteArray) : Int × Da :=
  match inA d.fs s with
  | some f => (0, ⟨d.room, updA d.fs s fun f => (f.1, f.2.1, f.2.1.length)⟩)
  | none => (6, d)
def cutD (d : Da) (s : ByteArray) (n : Int) : Int × Da :=
  match inA d.fs s with
  | some f => if n < 0 ∨ (f.2.1.length : Int) < n then (2, d) else (0, ⟨d.room, updA d.fs s (cutF n.toNat)⟩)
  | none => (6, d)
def remD (d : Da) (s : ByteArray) : Int × Da :=
  match inA d.fs s with
  | some f => (0, ⟨d.room, delA d.fs s⟩)
  | none => (6, d)
def renD (d : Da) (s t : ByteArray) : Int × Da :=
  if nameOk s = true ∧ nameOk t = true then
    match inA d.fs s with
    | some f => if s = t then (0, d) else (0, ⟨d.room, delA (delA d.fs t) s ++ [(t, f.2.1, f.2.2)]⟩)
    | none => (6, d)
  else (2, d)
def crashD (d : Da) (keep : Int) : Da := ⟨d.room, d.fs.map fun f => cutF (keepN keep f) f⟩

abbrev Apart (fs : List Fa) : Prop := fs.Pairwise fun x y => x.1 ≠ y.1
theorem inA_at : ∀ {fs : List Fa} {i : Nat} {f : Fa}, Apart fs → fs[i]? = some f → inA fs f.1 = some f
  | [], _, _, _, h => by simp at h
  | x :: r, 0, f, _, h => by
    obtain rfl := Option.some.inj (show some x = some f from h)
    unfold inA
    rw [List.find?_cons, decide_eq_true rfl]
  | x :: r, i + 1, f, hp, h => by
    obtain ⟨h1, h2⟩ := List.pairwise_cons.1 hp
    have hf : f ∈ r := List.mem_of_getElem? (show r[i]? = some f from h)
    have := inA_at (i := i) h2 h
    unfold inA at this ⊢
    rw [List.find?_cons, decide_eq_false (h1 f hf)]
    exact this
theorem inA_none {fs : List Fa} {s : ByteArray} (h : ∀ f ∈ fs, f.1 ≠ s) : inA fs s = none := by
  unfold inA
  rw [List.find?_eq_none]
  intro f hf
  simpa using h f hf
theorem updA_at {fs : List Fa} {i : Nat} {f : Fa} (hp : Apart fs) (h : fs[i]? = some f) (u : Fa → Fa) : updA fs f.1 u = fs.set i (u f) := by
  apply List.ext_getElem?
  intro j
  unfold updA
  rw [List.getElem?_map, List.getElem?_set]
  obtain ⟨hi, hfi⟩ := List.getElem?_eq_some_iff.1 h
  by_cases e : i = j
  · subst e
    rw [if_pos rfl, if_pos hi, h]
    show some (if f.1 = f.1 then u f else f) = _
    rw [if_pos rfl]
  · rw [if_neg e]
    cases hj : fs[j]? with
    | none => rfl
    | some x =>
      obtain ⟨hj', hxj⟩ := List.getElem?_eq_some_iff.1 hj
      have hne : x.1 ≠ f.1 := by
        have hp' := List.pairwise_iff_getElem.1 hp
        rcases Nat.lt_or_gt_of_ne e with hlt | hlt
        · have := hp' i j hi hj' hlt
          rw [hfi, hxj] at this
          exact this.symm
        · have := hp' j i hj' hi hlt
          rwa [hfi, hxj] at this
      show some (if x.1 = f.1 then u x else x) = some x
      rw [if_neg hne]
theorem delA_none {fs : List Fa} {s : ByteArray} (h : ∀ f ∈ fs, f.1 ≠ s) : delA fs s = fs := List.filter_eq_self.2 fun f hf => decide_eq_true (h f hf)
theorem delA_at : ∀ {fs : List Fa} {i : Nat} {f : Fa}, Apart fs → fs[i]? = some f → delA fs f.1 = fs.eraseIdx i
  | [], _, _, _, h => by simp at h
  | x :: r, 0, f, hp, h => by
    obtain rfl := Option.some.inj (show some x = some f from h)
    obtain ⟨h1, h2⟩ := List.pairwise_cons.1 hp
    show List.filter _ (x :: r) = r
    rw [List.filter_cons_of_neg (by simp)]
    exact delA_none fun f hf => (h1 f hf).symm
  | x :: r, i + 1, f, hp, h => by
    obtain ⟨h1, h2⟩ := List.pairwise_cons.1 hp
    have hf : f ∈ r := List.mem_of_getElem? (show r[i]? = some f from h)
    show List.filter _ (x :: r) = x :: r.eraseIdx i
    rw [List.filter_cons_of_pos (by simpa using h1 f hf)]
    exact congrArg _ (delA_at (i := i) h2 h)
theorem DkOk.apart {D : Dk} (h : DkOk D) : Apart (D.fs.map Fl.abs) := by
  have h1 := h.ents.apart
  rw [List.pairwise_map] at h1
  exact List.pairwise_map.2 (h1.imp fun hne e => hne (congrArg Value.string e))
theorem DkOk.hit {D : Dk} (h : DkOk D) {i : Nat} {f : Fl} (hi : D.fs[i]? = some f) : (D.fs.map Fl.abs)[i]? = some f.abs := by rw [List.getElem?_map, hi]; rfl
theorem DkOk.in_ {D : Dk} (h : DkOk D) {i : Nat} {f : Fl} (hi : D.fs[i]? = some f) : inA D.abs.fs f.name = some f.abs := inA_at h.apart (h.hit hi)
theorem Dk.out {D : Dk} {s : ByteArray} (h : ∀ f ∈ D.fs, f.name ≠ s) : ∀ f ∈ D.fs.map Fl.abs, f.1 ≠ s := fun f hf => by
  obtain ⟨x, hx, rfl⟩ := List.mem_map.1 hf
  exact h x hx
theorem hit_or {fs : List Fl} (s : ByteArray) : (∃ (i : Nat) (f : Fl), fs[i]? = some f ∧ f.name = s) ∨ ∀ f ∈ fs, f.name ≠ s := by
  by_cases h : ∃ f ∈ fs, f.name = s
  · obtain ⟨f, hf, e⟩ := h
    obtain ⟨i, hi, rfl⟩ := List.mem_iff_getElem.1 hf
    exact .inl ⟨i, _, List.getElem?_eq_getElem hi, e⟩
  · exact .inr fun f hf e => h ⟨f, hf, e⟩
/-- A file of a disk turned: its name, its place and its time stay. -/
theorem DkOk.turn {D : Dk} (h : DkOk D) {i : Nat} {f f' : Fl} (hi : D.fs[i]? = some f) (h1 : f'.name = f.name) (h2 : f'.born = f.born) (h3 : f'.blk = f.blk) (hok : FlOk f') {used : Int} (hu : used = D.used - f.n + f'.n) (hr : used ≤ D.room) :
    DkOk ⟨D.room, used, D.clock, D.fs.set i f'⟩ ∧ (D.fs.set i f').map Fl.ent = D.ents := by
  have he : (D.fs.set i f').map Fl.ent = D.ents := by
    rw [List.map_set]
    exact set_map hi (by unfold Fl.ent; rw [h1, h2, h3])
  have hfm := List.mem_of_getElem? hi
  refine ⟨⟨?_, fun x hx => ?_, ?_, ⟨hr, h.room.2⟩, fun x hx => ?_⟩, he⟩
  · show Ents .string ((D.fs.set i f').map Fl.ent) D.clock
    rw [he]
    exact h.ents
  · rcases List.mem_or_eq_of_mem_set hx with hx | rfl
    · exact h.files x hx
    · exact hok
  · show used = sumL ((D.fs.set i f').map Fl.abs)
    have p1 := sumL_perm ((perm_set (y := f') hi).map Fl.abs)
    have p2 := sumL_perm ((perm_out hi).map Fl.abs)
    have e1 : sumL ((f' :: D.fs.eraseIdx i).map Fl.abs) = (f'.l.length : Int) + sumL ((D.fs.eraseIdx i).map Fl.abs) := rfl
    have e2 : sumL ((f :: D.fs.eraseIdx i).map Fl.abs) = (f.l.length : Int) + sumL ((D.fs.eraseIdx i).map Fl.abs) := rfl
    have l1 := hok.len
    have l2 := (h.files f hfm).len
    have hu0 := h.used
    omega
  · rcases List.mem_or_eq_of_mem_set hx with hx | rfl
    · exact h.names x hx
    · rw [h1]; exact h.names f hfm
theorem Mem.closeF0 {F : Env} {w : World} {X Y : Blks} {fs : List Fl} {i : Nat} {f : Fl} (hm : Mem F w (X :: Y :: [(f.blk, f.obj)] :: f.L :: (fs.eraseIdx i).map Fl.mem)) (hi : fs[i]? = some f) : Mem F w (X :: Y :: fs.map Fl.mem) := by
  have h := Mem.closeF f hm hi
  rwa [show fs.set i f = fs from by
    apply List.ext_getElem?
    intro j
    rw [List.getElem?_set]
    split
    · rename_i e
      subst e
      rw [if_pos (List.getElem?_eq_some_iff.1 hi).1, hi]
    · rfl] at h
theorem Mem.closeNew {F : Env} {w : World} {X Y : Blks} {fs : List Fl} (f : Fl) (hm : Mem F w (X :: Y :: [(f.blk, f.obj)] :: f.L :: fs.map Fl.mem)) : Mem F w (X :: Y :: (fs ++ [f]).map Fl.mem) := hm.permF (by
  simp only [List.flatten_cons, List.map_append, List.flatten_append, List.map_cons, List.map_nil, List.flatten_nil, List.append_nil]
  refine (List.Perm.refl _).append ((List.Perm.refl _).append ?_)
  show (([(f.blk, f.obj)] ++ (f.L ++ (fs.map Fl.mem).flatten))).Perm ((fs.map Fl.mem).flatten ++ f.mem)
  rw [← List.append_assoc]
  exact List.perm_append_comm)

/-- What a step of a disk comes to. -/
def Step (F : Env) (g m : Nat) (r : Int × Da) (v : Value) (w' : World) : Prop := ∃ D', v = .int .i64 r.1 ∧ D'.abs = r.2 ∧ DkOk D' ∧ Mem F w' (dkB g m D')

set_option maxHeartbeats 4000000 in
theorem append_c {F : Env} {w : World} {g m n c : Nat} {D : Dk} {s : ByteArray} {B : Option Addr} {b : List Int} (hm : Mem F w (dkB g m D)) (hD : DkOk D) (hs : s.size ≤ maxLen) (hn : n ≤ 140737488355328) (hb : BRow F.heap B n b) :
    Calls Try.prog 12 #[.pointer (some ⟨g, 0, none⟩), .string s, .slice B n c] w (Ret (Step F g m (appD D.abs s b))) := by
  have hbl := hb.len
  have hpos := hD.pos
  have hroom := hD.room
  have hsum : sumL D.abs.fs = D.used := hD.used.symm
  have hrm : D.abs.room = D.room := rfl
  have hrow : Row F.heap B (n * 1) (bytes b) := by rw [Nat.mul_one]; exact hb
  refine Calls.of_vc Try.func12 rfl Try.ntmps12 rfl ?_
  repeat (first | refine VC.seq ?_ | refine VC.block ?_ | refine VC.skip ?_)
  refine VC.region ?_
  refine VR.pure rfl rfl (p_assignI rfl) ?_
  refine VR.nil ?_
  repeat (first | refine VC.seq ?_ | refine VC.block ?_ | refine VC.skip ?_)
  refine VC.region ?_
  refine VR.pure rfl rfl (p_moveP rfl) ?_
  refine VR.call rfl rfl (r_call1 Try.call40 rfl) (made_c hm) ?_
  rintro _ w ⟨rfl, hm⟩
  refine VR.pure rfl rfl (p_not rfl) ?_
  refine VR.nil ?_
  repeat (first | refine VC.seq ?_ | refine VC.block ?_ | refine VC.skip ?_)
  refine VC.condF rfl rfl ?_
  repeat (first | refine VC.seq ?_ | refine VC.block ?_ | refine VC.skip ?_)
  refine VC.region ?_
  refine VR.pure rfl rfl (p_moveZ rfl) ?_
  refine VR.call rfl rfl (r_call1 Try.call41 rfl) (named_c hm hs) ?_
  rintro _ w ⟨rfl, hm⟩
  refine VR.pure rfl rfl (p_not rfl) ?_
  refine VR.nil ?_
  by_cases hnm : nameOk s = true
  · have hss : s.size ≤ 30 := by
      unfold nameOk at hnm
      simp only [Bool.and_eq_true, decide_eq_true_eq] at hnm
      exact hnm.2
    repeat (first | refine VC.seq ?_ | refine VC.block ?_ | refine VC.skip ?_)
    refine VC.condF rfl (by rw [hnm]; rfl) ?_
    rcases hit_or (fs := D.fs) s with ⟨i, f, hi, rfl⟩ | hno
    · have he : D.ents[i]? = some f.ent := by rw [List.getElem?_map, hi]; rfl
      have hf := hD.files f (List.mem_of_getElem? hi)
      have hfn := hf.n
      have hfl := hf.len
      have hin := hD.in_ hi
      have happ : appD D.abs f.name b = if 4194304 < f.l.length + b.length then (3, D.abs) else if D.abs.room - sumL D.abs.fs < b.length then (5, D.abs) else (0, ⟨D.room, updA D.abs.fs f.name fun f => (f.1, f.2.1 ++ b, f.2.2)⟩) := by
        unfold appD
        rw [if_pos hnm, hin]
        rfl
      rw [happ, hsum, hrm]
      repeat (first | refine VC.seq ?_ | refine VC.block ?_ | refine VC.skip ?_)
      refine VC.region ?_
      refine VR.pure rfl rfl (p_moveP rfl) ?_
      refine VR.pure rfl rfl (p_nilCheck rfl) ?_
      refine VR.pure rfl rfl (p_field (fo := 2) Try.underlying63 rfl Try.sizeOf61 rfl rfl rfl) ?_
      refine VR.val rfl rfl (r_load (v := .map _) Try.isAgg61 rfl (hm.at_ 0 0 rfl) rfl) ?_
      refine VR.pure rfl rfl (p_moveZ rfl) ?_
      refine VR.val rfl rfl (r_lookup Try.underlying61 Try.underlying9 rfl rfl (hm.at_ 1 0 rfl) hD.ents he rfl) ?_
      refine VR.pure rfl rfl (p_assignP rfl) ?_
      refine VR.nil ?_
      repeat (first | refine VC.seq ?_ | refine VC.block ?_ | refine VC.skip ?_)
      refine VC.region ?_
      refine VR.pure rfl rfl (p_moveP rfl) ?_
      refine VR.pure rfl rfl (p_eqNilP Try.underlying66 rfl) ?_
      refine VR.nil ?_
      repeat (first | refine VC.seq ?_ | refine VC.block ?_ | refine VC.skip ?_)
      refine VC.condF rfl rfl ?_
      replace hm := hm.openF hi
      repeat (first | refine VC.seq ?_ | refine VC.block ?_ | refine VC.skip ?_)
      repeat (first | refine VC.seq ?_ | refine VC.block ?_ | refine VC.skip ?_)
      refine VC.region ?_
      refine VR.pure rfl rfl (p_moveP rfl) ?_
      refine VR.pure rfl rfl (p_nilCheck rfl) ?_
      refine VR.pure rfl rfl (p_field (fo := 0) Try.underlying68 rfl Try.sizeOf22 rfl rfl rfl) ?_
      refine VR.val rfl rfl (r_load (v := .slice _ _ _) Try.isAgg22 rfl (hm.at_ 2 0 rfl) rfl) ?_
      refine VR.pure rfl rfl (p_len Try.underlying22 rfl) ?_
      refine VR.pure rfl rfl (p_moveL rfl) ?_
      refine VR.pure rfl rfl (p_len Try.underlying22 rfl) ?_
      refine VR.pure rfl rfl (p_add64 rfl rfl (by omega)) ?_
      refine VR.pure rfl rfl (p_gt rfl rfl) ?_
      refine VR.pure rfl rfl (p_assignB rfl) ?_
      refine VR.nil ?_
      repeat (first | refine VC.seq ?_ | refine VC.block ?_ | refine VC.skip ?_)
      refine VC.condD rfl (fun h8 => ?_) (fun h8 => ?_)
      · repeat (first | refine VC.seq ?_ | refine VC.block ?_ | refine VC.skip ?_)
        refine VC.region ?_
        refine VR.pure rfl rfl (p_assignI rfl) ?_
        refine VR.nil ?_
        repeat (first | refine VC.seq ?_ | refine VC.block ?_ | refine VC.skip ?_)
        refine VC.ret ⟨_, ResOf.r1 (v := .int _ _) rfl rfl, ?_⟩
        rw [if_pos (by omega)]
        exact ⟨D, rfl, rfl, hD, hm.closeF0 hi⟩
      · repeat (first | refine VC.seq ?_ | refine VC.block ?_ | refine VC.skip ?_)
        refine VC.loud (Kept F ([(g, D.obj m)] :: [])) [] rfl (by kernel_rfl) (Kept.one hm.drew 0 rfl) ?_
        replace hm := hm.drew
        refine VL.pure rfl rfl rfl (p_moveL rfl) ?_
        refine VL.pure rfl rfl rfl (p_len Try.underlying22 rfl) ?_
        refine VL.pure rfl rfl rfl (p_moveP rfl) ?_
        refine VL.pure rfl rfl rfl (p_nilCheck rfl) ?_
        refine VL.pure rfl rfl rfl (p_field (fo := 0) Try.underlying63 rfl Try.sizeOf3 rfl rfl rfl) ?_
        refine VL.read rfl rfl rfl (fun w' hw' => r_load (v := .int _ _) Try.isAgg3 rfl (hw'.at_ 0 0 rfl) rfl) ?_
        refine VL.pure rfl rfl rfl (p_moveP rfl) ?_
        refine VL.pure rfl rfl rfl (p_nilCheck rfl) ?_
        refine VL.pure rfl rfl rfl (p_field (fo := 1) Try.underlying63 rfl Try.sizeOf3 rfl rfl rfl) ?_
        refine VL.read rfl rfl rfl (fun w' hw' => r_load (v := .int _ _) Try.isAgg3 rfl (hw'.at_ 0 0 rfl) rfl) ?_
        refine VL.pure rfl rfl rfl (p_sub64 rfl rfl (by omega)) ?_
        refine VL.pure rfl rfl rfl (p_gt rfl rfl) ?_
        refine VL.pure rfl rfl rfl (p_assignB rfl) ?_
        refine VL.nil ?_
        repeat (first | refine VC.seq ?_ | refine VC.block ?_ | refine VC.skip ?_)
        refine VC.condD rfl (fun h10 => ?_) (fun h10 => ?_)
        · repeat (first | refine VC.seq ?_ | refine VC.block ?_ | refine VC.skip ?_)
          refine VC.region ?_
          refine VR.pure rfl rfl (p_assignI rfl) ?_
          refine VR.nil ?_
          repeat (first | refine VC.seq ?_ | refine VC.block ?_ | refine VC.skip ?_)
          refine VC.ret ⟨_, ResOf.r1 (v := .int _ _) rfl rfl, ?_⟩
          rw [if_neg (by omega), if_pos (by omega)]
          exact ⟨D, rfl, rfl, hD, hm.closeF0 hi⟩
        · repeat (first | refine VC.seq ?_ | refine VC.block ?_ | refine VC.skip ?_)
          refine VC.region ?_
          refine VR.pure rfl rfl (p_moveP rfl) ?_
          refine VR.pure rfl rfl (p_moveP rfl) ?_
          refine VR.pure rfl rfl (p_nilCheck rfl) ?_
          refine VR.pure rfl rfl (p_field (fo := 0) Try.underlying68 rfl Try.sizeOf22 rfl rfl rfl) ?_
          refine VR.val rfl rfl (r_load (v := .slice _ _ _) Try.isAgg22 rfl (hm.at_ 2 0 rfl) rfl) ?_
          refine VR.pure rfl rfl (p_moveL rfl) ?_
          replace hm := hm.pull 3 rfl
          refine VR.appendO (s := 1) (bytes := 1) Try.underlying22 inf5 rfl rfl rfl rfl rfl rfl rfl rfl rfl hm hf.own (hrow.mono hm.fix) (bytes_one b) rfl ⟨by unfold maxLen; omega, by omega⟩ ?_
          intro A' c' w L' ho' hm
          refine VR.pure rfl rfl (p_nilCheck rfl) ?_
          refine VR.pure rfl rfl (p_field (fo := 0) Try.underlying68 rfl Try.sizeOf22 rfl rfl rfl) ?_
          refine VR.store (cs' := #[.slice A' (f.n + n) c', .int .i64 f.sy]) (v := .slice _ _ _) Try.sizeOf22 rfl rfl rfl rfl rfl hm 3 0 rfl (Nat.ble_eq.mp rfl) rfl ?_
          intro w hm
          refine VR.nil ?_
          repeat (first | refine VC.seq ?_ | refine VC.block ?_ | refine VC.skip ?_)
          refine VC.region ?_
          refine VR.pure rfl rfl (p_moveP rfl) ?_
          refine VR.pure rfl rfl (p_nilCheck rfl) ?_
          refine VR.pure rfl rfl (p_field (fo := 1) Try.underlying63 rfl Try.sizeOf3 rfl rfl rfl) ?_
          refine VR.val rfl rfl (r_load (v := .int _ _) Try.isAgg3 rfl (hm.at_ 1 0 rfl) rfl) ?_
          refine VR.pure rfl rfl (p_moveL rfl) ?_
          refine VR.pure rfl rfl (p_len Try.underlying22 rfl) ?_
          refine VR.pure rfl rfl (p_add64 rfl rfl (by omega)) ?_
          refine VR.pure rfl rfl (p_nilCheck rfl) ?_
          refine VR.pure rfl rfl (p_field (fo := 1) Try.underlying63 rfl Try.sizeOf3 rfl rfl rfl) ?_
          refine VR.store (cs' := #[.int .i64 D.room, .int .i64 (D.used + n), .map (some m)]) (v := .int _ _) Try.sizeOf3 rfl rfl rfl rfl rfl hm 1 0 rfl (Nat.ble_eq.mp rfl) rfl ?_
          intro w hm
          refine VR.nil ?_
          repeat (first | refine VC.seq ?_ | refine VC.block ?_ | refine VC.skip ?_)
          refine VC.region ?_
          refine VR.pure rfl rfl (p_moveP rfl) ?_
          refine VR.pure rfl rfl (p_nilCheck rfl) ?_
          refine VR.pure rfl rfl (p_field (fo := 2) Try.underlying63 rfl Try.sizeOf61 rfl rfl rfl) ?_
          refine VR.val rfl rfl (r_load (v := .map _) Try.isAgg61 rfl (hm.at_ 1 0 rfl) rfl) ?_
          refine VR.pure rfl rfl (p_moveZ rfl) ?_
          refine VR.pure rfl rfl (p_moveP rfl) ?_
          refine VR.updateHit (u := .string _) (v := .pointer _) Try.underlying61 Try.underlying9 rfl rfl rfl rfl hm 2 0 rfl hD.ents he rfl ?_
          intro w hm
          refine VR.nil ?_
          repeat (first | refine VC.seq ?_ | refine VC.block ?_ | refine VC.skip ?_)
          refine VC.region ?_
          refine VR.pure rfl rfl (p_assignI rfl) ?_
          refine VR.nil ?_
          repeat (first | refine VC.seq ?_ | refine VC.block ?_ | refine VC.skip ?_)
          refine VC.ret ⟨_, ResOf.r1 (v := .int _ _) rfl rfl, ?_⟩
          rw [if_neg (by omega), if_neg (by omega)]
          have hok : FlOk { f with l := f.l ++ b, A := A', n := f.n + n, c := c', L := L' } := ⟨by show OwnO _ _ _ _ _ (bytes (f.l ++ b)) _; unfold bytes; rw [List.map_append]; exact ho', by show f.n + n ≤ _; omega, by have := hf.sy; show 0 ≤ f.sy ∧ f.sy ≤ ((f.n + n : Nat) : Int); omega⟩
          obtain ⟨hD', hents⟩ := hD.turn hi (f' := { f with l := f.l ++ b, A := A', n := f.n + n, c := c', L := L' }) rfl rfl rfl hok (used := D.used + n) (by show _ = D.used - f.n + ((f.n + n : Nat) : Int); omega) (by omega)
          refine ⟨_, rfl, ?_, hD', ?_⟩
          · show Da.mk D.room ((D.fs.set i _).map Fl.abs) = _
            rw [List.map_set]
            exact congrArg _ (updA_at hD.apart (hD.hit hi) (fun f => (f.1, f.2.1 ++ b, f.2.2))).symm
          · have hset : D.ents.set i ⟨.string f.name, .pointer (some ⟨f.blk, 0, none⟩), f.ent.born⟩ = D.ents := by
              have := set_map (f := id) (l := D.ents) (y := f.ent) he rfl
              rwa [List.map_id] at this
            simp only [mset, bset] at hm
            rw [hset] at hm
            have h2 := ((hm.pull 3 rfl).pull 3 rfl).pull 3 rfl
            have h3 := Mem.closeF { f with l := f.l ++ b, A := A', n := f.n + n, c := c', L := L' } h2 hi
            unfold dkB Dk.map Dk.ents
            rw [hents]
            exact h3
    · have hn1 : ∀ x ∈ D.ents, x.key ≠ .string s := fun x hx e => by
        obtain ⟨f, hf, rfl⟩ := List.mem_map.1 hx
        exact hno f hf (by injection e)
      have happ : appD D.abs s b = if 4194304 < b.length then (3, D.abs) else if D.abs.room - sumL D.abs.fs < b.length then (5, D.abs) else (0, ⟨D.room, D.abs.fs ++ [(s, b, 0)]⟩) := by
        unfold appD
        rw [if_pos hnm, show inA D.abs.fs s = none from inA_none (Dk.out hno)]
        rfl
      rw [happ, hsum, hrm]
      repeat (first | refine VC.seq ?_ | refine VC.block ?_ | refine VC.skip ?_)
      refine VC.region ?_
      refine VR.pure rfl rfl (p_moveP rfl) ?_
      refine VR.pure rfl rfl (p_nilCheck rfl) ?_
      refine VR.pure rfl rfl (p_field (fo := 2) Try.underlying63 rfl Try.sizeOf61 rfl rfl rfl) ?_
      refine VR.val rfl rfl (r_load (v := .map _) Try.isAgg61 rfl (hm.at_ 0 0 rfl) rfl) ?_
      refine VR.pure rfl rfl (p_moveZ rfl) ?_
      refine VR.val rfl rfl (r_lookupNo Try.underlying61 Try.underlying9 rfl rfl Try.zeroValue66 (hm.at_ 1 0 rfl) hD.ents trivial hn1) ?_
      refine VR.pure rfl rfl (p_assignP rfl) ?_
      refine VR.nil ?_
      repeat (first | refine VC.seq ?_ | refine VC.block ?_ | refine VC.skip ?_)
      refine VC.region ?_
      refine VR.pure rfl rfl (p_moveP rfl) ?_
      refine VR.pure rfl rfl (p_eqNilP Try.underlying66 rfl) ?_
      refine VR.nil ?_
      repeat (first | refine VC.seq ?_ | refine VC.block ?_ | refine VC.skip ?_)
      refine VC.condT rfl rfl ?_
      repeat (first | refine VC.seq ?_ | refine VC.block ?_ | refine VC.skip ?_)
      refine VC.region ?_
      refine VR.pure rfl rfl (p_build (vs := []) bld68_0x rfl) ?_
      refine VR.new hm rfl rfl (n_boxG rfl) ?_
      intro fb w hm
      refine VR.pure rfl rfl (p_assignP rfl) ?_
      refine VR.nil ?_
      repeat (first | refine VC.seq ?_ | refine VC.block ?_ | refine VC.skip ?_)
      repeat (first | refine VC.seq ?_ | refine VC.block ?_ | refine VC.skip ?_)
      refine VC.region ?_
      refine VR.pure rfl rfl (p_moveP rfl) ?_
      refine VR.pure rfl rfl (p_nilCheck rfl) ?_
      refine VR.pure rfl rfl (p_field (fo := 0) Try.underlying68 rfl Try.sizeOf22 rfl rfl rfl) ?_
      refine VR.val rfl rfl (r_load (v := .slice _ _ _) Try.isAgg22 rfl (hm.at_ 0 0 rfl) rfl) ?_
      refine VR.pure rfl rfl (p_len Try.underlying22 rfl) ?_
      refine VR.pure rfl rfl (p_moveL rfl) ?_
      refine VR.pure rfl rfl (p_len Try.underlying22 rfl) ?_
      refine VR.pure rfl rfl (p_add64 rfl rfl (by omega)) ?_
      refine VR.pure rfl rfl (p_gt rfl rfl) ?_
      refine VR.pure rfl rfl (p_assignB rfl) ?_
      refine VR.nil ?_
      repeat (first | refine VC.seq ?_ | refine VC.block ?_ | refine VC.skip ?_)
      refine VC.condD rfl (fun h8 => ?_) (fun h8 => ?_)
      · repeat (first | refine VC.seq ?_ | refine VC.block ?_ | refine VC.skip ?_)
        refine VC.region ?_
        refine VR.pure rfl rfl (p_assignI rfl) ?_
        refine VR.nil ?_
        repeat (first | refine VC.seq ?_ | refine VC.block ?_ | refine VC.skip ?_)
        refine VC.ret ⟨_, ResOf.r1 (v := .int _ _) rfl rfl, ?_⟩
        rw [if_pos (by omega)]
        exact ⟨D, rfl, rfl, hD, hm.pop⟩
      · repeat (first | refine VC.seq ?_ | refine VC.block ?_ | refine VC.skip ?_)
        refine VC.loud (Kept F ([(g, D.obj m)] :: [])) [] rfl (by kernel_rfl) (Kept.one hm.drew 1 rfl) ?_
        replace hm := hm.drew
        refine VL.pure rfl rfl rfl (p_moveL rfl) ?_
        refine VL.pure rfl rfl rfl (p_len Try.underlying22 rfl) ?_
        refine VL.pure rfl rfl rfl (p_moveP rfl) ?_
        refine VL.pure rfl rfl rfl (p_nilCheck rfl) ?_
        refine VL.pure rfl rfl rfl (p_field (fo := 0) Try.underlying63 rfl Try.sizeOf3 rfl rfl rfl) ?_
        refine VL.read rfl rfl rfl (fun w' hw' => r_load (v := .int _ _) Try.isAgg3 rfl (hw'.at_ 0 0 rfl) rfl) ?_
        refine VL.pure rfl rfl rfl (p_moveP rfl) ?_
        refine VL.pure rfl rfl rfl (p_nilCheck rfl) ?_
        refine VL.pure rfl rfl rfl (p_field (fo := 1) Try.underlying63 rfl Try.sizeOf3 rfl rfl rfl) ?_
        refine VL.read rfl rfl rfl (fun w' hw' => r_load (v := .int _ _) Try.isAgg3 rfl (hw'.at_ 0 0 rfl) rfl) ?_
        refine VL.pure rfl rfl rfl (p_sub64 rfl rfl (by omega)) ?_
        refine VL.pure rfl rfl rfl (p_gt rfl rfl) ?_
        refine VL.pure rfl rfl rfl (p_assignB rfl) ?_
        refine VL.nil ?_
        repeat (first | refine VC.seq ?_ | refine VC.block ?_ | refine VC.skip ?_)
        refine VC.condD rfl (fun h10 => ?_) (fun h10 => ?_)
        · repeat (first | refine VC.seq ?_ | refine VC.block ?_ | refine VC.skip ?_)
          refine VC.region ?_
          refine VR.pure rfl rfl (p_assignI rfl) ?_
          refine VR.nil ?_
          repeat (first | refine VC.seq ?_ | refine VC.block ?_ | refine VC.skip ?_)
          refine VC.ret ⟨_, ResOf.r1 (v := .int _ _) rfl rfl, ?_⟩
          rw [if_neg (by omega), if_pos (by omega)]
          exact ⟨D, rfl, rfl, hD, hm.pop⟩
        · repeat (first | refine VC.seq ?_ | refine VC.block ?_ | refine VC.skip ?_)
          refine VC.region ?_
          refine VR.pure rfl rfl (p_moveP rfl) ?_
          refine VR.pure rfl rfl (p_moveP rfl) ?_
          refine VR.pure rfl rfl (p_nilCheck rfl) ?_
          refine VR.pure rfl rfl (p_field (fo := 0) Try.underlying68 rfl Try.sizeOf22 rfl rfl rfl) ?_
          refine VR.val rfl rfl (r_load (v := .slice _ _ _) Try.isAgg22 rfl (hm.at_ 0 0 rfl) rfl) ?_
          refine VR.pure rfl rfl (p_moveL rfl) ?_
          replace hm := hm.nil_
          refine VR.appendO (s := 1) (bytes := 1) Try.underlying22 inf5 rfl rfl rfl rfl rfl rfl rfl rfl rfl hm (OwnO.nil _ _) (hrow.mono hm.fix) (bytes_one b) (Nat.zero_add n) ⟨by unfold maxLen; omega, by omega⟩ ?_
          intro A' c' w L' ho' hm
          refine VR.pure rfl rfl (p_nilCheck rfl) ?_
          refine VR.pure rfl rfl (p_field (fo := 0) Try.underlying68 rfl Try.sizeOf22 rfl rfl rfl) ?_
          refine VR.store (cs' := #[.slice A' n c', .int .i64 0]) (v := .slice _ _ _) Try.sizeOf22 rfl rfl rfl rfl rfl hm 1 0 rfl (Nat.ble_eq.mp rfl) rfl ?_
          intro w hm
          refine VR.nil ?_
          repeat (first | refine VC.seq ?_ | refine VC.block ?_ | refine VC.skip ?_)
          refine VC.region ?_
          refine VR.pure rfl rfl (p_moveP rfl) ?_
          refine VR.pure rfl rfl (p_nilCheck rfl) ?_
          refine VR.pure rfl rfl (p_field (fo := 1) Try.underlying63 rfl Try.sizeOf3 rfl rfl rfl) ?_
          refine VR.val rfl rfl (r_load (v := .int _ _) Try.isAgg3 rfl (hm.at_ 2 0 rfl) rfl) ?_
          refine VR.pure rfl rfl (p_moveL rfl) ?_
          refine VR.pure rfl rfl (p_len Try.underlying22 rfl) ?_
          refine VR.pure rfl rfl (p_add64 rfl rfl (by omega)) ?_
          refine VR.pure rfl rfl (p_nilCheck rfl) ?_
          refine VR.pure rfl rfl (p_field (fo := 1) Try.underlying63 rfl Try.sizeOf3 rfl rfl rfl) ?_
          refine VR.store (cs' := #[.int .i64 D.room, .int .i64 (D.used + n), .map (some m)]) (v := .int _ _) Try.sizeOf3 rfl rfl rfl rfl rfl hm 2 0 rfl (Nat.ble_eq.mp rfl) rfl ?_
          intro w hm
          refine VR.nil ?_
          repeat (first | refine VC.seq ?_ | refine VC.block ?_ | refine VC.skip ?_)
          refine VC.region ?_
          refine VR.pure rfl rfl (p_moveP rfl) ?_
          refine VR.pure rfl rfl (p_nilCheck rfl) ?_
          refine VR.pure rfl rfl (p_field (fo := 2) Try.underlying63 rfl Try.sizeOf61 rfl rfl rfl) ?_
          refine VR.val rfl rfl (r_load (v := .map _) Try.isAgg61 rfl (hm.at_ 2 0 rfl) rfl) ?_
          refine VR.pure rfl rfl (p_moveZ rfl) ?_
          refine VR.pure rfl rfl (p_moveP rfl) ?_
          refine VR.updateMiss (u := .string _) (v := .pointer _) Try.underlying61 Try.underlying9 rfl rfl rfl rfl hm 3 0 rfl hD.ents trivial hn1 ?_
          intro w hm
          refine VR.nil ?_
          repeat (first | refine VC.seq ?_ | refine VC.block ?_ | refine VC.skip ?_)
          refine VC.region ?_
          refine VR.pure rfl rfl (p_assignI rfl) ?_
          refine VR.nil ?_
          repeat (first | refine VC.seq ?_ | refine VC.block ?_ | refine VC.skip ?_)
          refine VC.ret ⟨_, ResOf.r1 (v := .int _ _) rfl rfl, ?_⟩
          rw [if_neg (by omega), if_neg (by omega)]
          simp only [mset, bset] at hm
          refine ⟨⟨D.room, D.used + n, D.clock + 1, D.fs ++ [⟨s, b, 0, D.clock, fb, A', n, c', L'⟩]⟩, rfl, ?_, ⟨?_, fun x hx => ?_, ?_, ⟨by show D.used + n ≤ D.room; omega, hroom.2⟩, fun x hx => ?_⟩, ?_⟩
          · show Da.mk D.room ((D.fs ++ [_]).map Fl.abs) = _
            rw [List.map_append]
            rfl
          · show Ents .string ((D.fs ++ [_]).map Fl.ent) (D.clock + 1)
            rw [List.map_append]
            exact hD.ents.push trivial hn1
          · rcases List.mem_append.1 hx with hx | hx
            · exact hD.files x hx
            · rw [List.mem_singleton.1 hx]
              exact ⟨ho', by show n ≤ _; omega, by show (0 : Int) ≤ 0 ∧ (0 : Int) ≤ n; omega⟩
          · show D.used + n = sumL ((D.fs ++ [_]).map Fl.abs)
            rw [List.map_append, sumL_app, ← hD.used]
            show D.used + n = D.used + ((b.length : Int) + 0)
            omega
          · rcases List.mem_append.1 hx with hx | hx
            · exact hD.names x hx
            · rw [List.mem_singleton.1 hx]
              exact hss
          · have h3 := ((hm.pull 1 rfl).pull 3 rfl).pull 3 rfl
            have h4 := Mem.closeNew ⟨s, b, 0, D.clock, fb, A', n, c', L'⟩ h3
            unfold dkB Dk.map Dk.ents
            rw [List.map_append (f := Fl.ent)]
            exact h4
  · repeat (first | refine VC.seq ?_ | refine VC.block ?_ | refine VC.skip ?_)
    refine VC.condT rfl (by rw [Bool.not_eq_true _ |>.mp hnm]; rfl) ?_
    repeat (first | refine VC.seq ?_ | refine VC.block ?_ | refine VC.skip ?_)
    refine VC.region ?_
    refine VR.pure rfl rfl (p_assignI rfl) ?_
    refine VR.nil ?_
    repeat (first | refine VC.seq ?_ | refine VC.block ?_ | refine VC.skip ?_)
    refine VC.ret ⟨_, ResOf.r1 (v := .int _ _) rfl rfl, ?_⟩
    unfold appD
    rw [if_neg hnm]
    exact ⟨D, rfl, rfl, hD, hm⟩
end Go.Bd
