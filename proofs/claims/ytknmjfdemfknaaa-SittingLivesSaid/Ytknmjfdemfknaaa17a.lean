/- Contracts of layer 17: how a book lies; heard of, had, added, touched, removed. Conditions: as each states. -/
import Derived.Test.YtknmjfdemfknaaaFacts
import Derived.Test.YtknmjfdemfknaaaMap
import Derived.Test.YtknmjfdemfknaaaTxt
namespace Go.Bd
open Go.Proofs
set_option linter.unusedVariables false
set_option maxRecDepth 20000

/-- A session in a book: its timeout, its end; and when it was laid. -/
structure Se where
  s : Int
  t : Int
  e : Int
  born : Nat
abbrev Se.ent (x : Se) : MapEntry := ⟨.int .i64 x.s, .agg #[.int .i64 x.t, .int .i64 x.e], x.born⟩
abbrev Sa := Int × Int × Int
def Se.abs (x : Se) : Sa := (x.s, x.t, x.e)
structure Bk where
  now : Int
  clock : Nat
  fs : List Se
abbrev Bk.ents (B : Bk) : List MapEntry := B.fs.map Se.ent
abbrev Bk.obj (B : Bk) (m : Nat) : Obj := .cells #[.int .i64 B.now, .map (some m)] 48 (0, 0)
abbrev Bk.map (B : Bk) : Obj := .map B.ents.toArray B.clock
def bkB (g m : Nat) (B : Bk) : List Blks := [(g, B.obj m)] :: [(m, B.map)] :: []
/-- A session as it may be: a timeout above nought, an end within time. -/
def SeOk (x : Sa) : Prop := 1 ≤ x.1 ∧ 1 ≤ x.2.1 ∧ x.2.1 ≤ 1000 ∧ 0 ≤ x.2.2 ∧ x.2.2 ≤ 1152921504606846976 + 1004
structure BkOk (B : Bk) : Prop where
  ents : Ents (.int .i64) B.ents B.clock
  now : 0 ≤ B.now ∧ B.now ≤ 1152921504606846976
  each : ∀ x ∈ B.fs, SeOk x.abs

/-! ### What is done, as functions -/
structure Ba where
  now : Int
  fs : List Sa
def Bk.abs (B : Bk) : Ba := ⟨B.now, B.fs.map Se.abs⟩
def endOf (now t : Int) : Int := (now + t + 3) / 4 * 4
def inS (fs : List Sa) (s : Int) : Option Sa := fs.find? fun f => decide (f.1 = s)
def putS (fs : List Sa) (x : Sa) : List Sa := match inS fs x.1 with
  | some _ => fs.map fun f => if f.1 = x.1 then x else f
  | none => fs ++ [x]
def delS (fs : List Sa) (s : Int) : List Sa := fs.filter fun f => decide (f.1 ≠ s)
def addB (b : Ba) (s t : Int) : Int × Ba := if s < 1 ∨ t < 1 ∨ 1000 < t then (2, b) else (0, ⟨b.now, putS b.fs (s, t, endOf b.now t)⟩)
def touchB (b : Ba) (s : Int) : Bool × Ba := match inS b.fs s with
  | some x => (true, ⟨b.now, putS b.fs (s, x.2.1, endOf b.now x.2.1)⟩)
  | none => (false, b)
def removeB (b : Ba) (s : Int) : Bool × Ba := match inS b.fs s with
  | some _ => (true, ⟨b.now, delS b.fs s⟩)
  | none => (false, b)
def nowOf (now t : Int) : Int := if t ≤ 1152921504606846976 then max now t else now
def goneB (b : Ba) (t : Int) : List Int := (b.fs.filter fun f => decide (f.2.2 ≤ nowOf b.now t)).map (·.1)
def tickB (b : Ba) (t : Int) : Ba := ⟨nowOf b.now t, b.fs.filter fun f => decide (¬ f.2.2 ≤ nowOf b.now t)⟩

abbrev Apart (fs : List Sa) : Prop := fs.Pairwise fun x y => x.1 ≠ y.1
theorem inS_at : ∀ {fs : List Sa} {i : Nat} {f : Sa}, Apart fs → fs[i]? = some f → inS fs f.1 = some f
  | [], _, _, _, h => by simp at h
  | x :: r, 0, f, _, h => by
    obtain rfl := Option.some.inj (show some x = some f from h)
    unfold inS
    rw [List.find?_cons, decide_eq_true rfl]
  | x :: r, i + 1, f, hp, h => by
    obtain ⟨h1, h2⟩ := List.pairwise_cons.1 hp
    have hf : f ∈ r := List.mem_of_getElem? (show r[i]? = some f from h)
    have := inS_at (i := i) h2 h
    unfold inS at this ⊢
    rw [List.find?_cons, decide_eq_false (h1 f hf)]
    exact this
theorem inS_none {fs : List Sa} {s : Int} (h : ∀ f ∈ fs, f.1 ≠ s) : inS fs s = none := by
  unfold inS
  rw [List.find?_eq_none]
  intro f hf
  simpa using h f hf
theorem inS_some {fs : List Sa} {s : Int} {f : Sa} (h : inS fs s = some f) : f ∈ fs ∧ f.1 = s :=
  ⟨List.mem_of_find?_eq_some h, of_decide_eq_true (List.find?_some (p := fun f : Sa => decide (f.1 = s)) h)⟩
theorem putS_at {fs : List Sa} {i : Nat} {f x : Sa} (hp : Apart fs) (h : fs[i]? = some f) (hx : x.1 = f.1) : putS fs x = fs.set i x := by
  unfold putS
  rw [hx, inS_at hp h]
  apply List.ext_getElem?
  intro j
  show (fs.map _)[j]? = _
  rw [List.getElem?_map, List.getElem?_set]
  obtain ⟨hi, hfi⟩ := List.getElem?_eq_some_iff.1 h
  by_cases e : i = j
  · subst e
    rw [if_pos rfl, if_pos hi, h]
    show some (if f.1 = f.1 then x else f) = _
    rw [if_pos rfl]
  · rw [if_neg e]
    cases hj : fs[j]? with
    | none => rfl
    | some y =>
      obtain ⟨hj', hxj⟩ := List.getElem?_eq_some_iff.1 hj
      have hne : y.1 ≠ f.1 := by
        have hp' := List.pairwise_iff_getElem.1 hp
        rcases Nat.lt_or_gt_of_ne e with hlt | hlt
        · have := hp' i j hi hj' hlt
          rw [hfi, hxj] at this
          exact this.symm
        · have := hp' j i hj' hi hlt
          rwa [hfi, hxj] at this
      show some (if y.1 = f.1 then x else y) = some y
      rw [if_neg hne]
theorem putS_none {fs : List Sa} {x : Sa} (h : ∀ f ∈ fs, f.1 ≠ x.1) : putS fs x = fs ++ [x] := by
  unfold putS
  rw [inS_none h]
theorem delS_none {fs : List Sa} {s : Int} (h : ∀ f ∈ fs, f.1 ≠ s) : delS fs s = fs := List.filter_eq_self.2 fun f hf => decide_eq_true (h f hf)
theorem delS_at : ∀ {fs : List Sa} {i : Nat} {f : Sa}, Apart fs → fs[i]? = some f → delS fs f.1 = fs.eraseIdx i
  | [], _, _, _, h => by simp at h
  | x :: r, 0, f, hp, h => by
    obtain rfl := Option.some.inj (show some x = some f from h)
    obtain ⟨h1, h2⟩ := List.pairwise_cons.1 hp
    show List.filter _ (x :: r) = r
    rw [List.filter_cons_of_neg (by simp)]
    exact delS_none fun f hf => (h1 f hf).symm
  | x :: r, i + 1, f, hp, h => by
    obtain ⟨h1, h2⟩ := List.pairwise_cons.1 hp
    have hf : f ∈ r := List.mem_of_getElem? (show r[i]? = some f from h)
    show List.filter _ (x :: r) = x :: r.eraseIdx i
    rw [List.filter_cons_of_pos (by simpa using h1 f hf)]
    exact congrArg _ (delS_at (i := i) h2 h)
theorem BkOk.apart {B : Bk} (h : BkOk B) : Apart (B.fs.map Se.abs) := by
  have h1 := h.ents.apart
  rw [List.pairwise_map] at h1
  exact List.pairwise_map.2 (h1.imp fun hne e => hne (congrArg (Value.int .i64) e))
theorem hit_or {fs : List Se} (s : Int) : (∃ (i : Nat) (f : Se), fs[i]? = some f ∧ f.s = s) ∨ ∀ f ∈ fs, f.s ≠ s := by
  by_cases h : ∃ f ∈ fs, f.s = s
  · obtain ⟨f, hf, e⟩ := h
    obtain ⟨i, hi, rfl⟩ := List.mem_iff_getElem.1 hf
    exact .inl ⟨i, _, List.getElem?_eq_getElem hi, e⟩
  · exact .inr fun f hf e => h ⟨f, hf, e⟩
theorem Bk.out {B : Bk} {s : Int} (h : ∀ f ∈ B.fs, f.s ≠ s) : ∀ f ∈ B.fs.map Se.abs, f.1 ≠ s := fun f hf => by
  obtain ⟨x, hx, rfl⟩ := List.mem_map.1 hf
  exact h x hx
theorem no_key {B : Bk} {s : Int} (h : ∀ f ∈ B.fs, f.s ≠ s) : ∀ x ∈ B.ents, x.key ≠ .int .i64 s := fun x hx e => by
  obtain ⟨f, hf, rfl⟩ := List.mem_map.1 hx
  exact h f hf (by injection e)
theorem isk (s : Int) : MapKept.IsKey (.int .i64) (.int .i64 s) := rfl
theorem end_ok {now t : Int} (hn : 0 ≤ now ∧ now ≤ 1152921504606846976) (ht : 1 ≤ t ∧ t ≤ 1000) : 0 ≤ endOf now t ∧ endOf now t ≤ 1152921504606846976 + 1004 := by
  unfold endOf
  omega

theorem new_c {F : Env} {w : World} {Ls : List Blks} {now : Int} (hm : Mem F w Ls) :
    Calls Try.prog 9 #[.int .i64 now] w (Ret fun v w' => ∃ g m B, v = .pointer (some ⟨g, 0, none⟩) ∧ B.abs = ⟨min (max now 0) 1152921504606846976, []⟩ ∧ BkOk B ∧ Mem F w' (bkB g m B ++ Ls)) := by
  refine Calls.of_vc Try.func9 rfl Try.ntmps9 rfl ?_
  repeat (first | refine VC.seq ?_ | refine VC.block ?_ | refine VC.skip ?_)
  refine VC.region ?_
  refine VR.pure rfl rfl (p_assignP rfl) ?_
  refine VR.nil ?_
  repeat (first | refine VC.seq ?_ | refine VC.block ?_ | refine VC.skip ?_)
  refine VC.region ?_
  refine VR.pure rfl rfl (p_moveI rfl) ?_
  refine VR.pure rfl rfl (p_max rfl rfl) ?_
  refine VR.pure rfl rfl (p_min rfl rfl) ?_
  refine VR.new hm rfl rfl (n_makeMap) ?_
  intro m w hm
  refine VR.pure rfl rfl (p_build (vs := [(0, .int _ _), (1, .map _)]) bld48_0_1 rfl) ?_
  refine VR.new hm rfl rfl (n_boxG rfl) ?_
  intro g w hm
  refine VR.pure rfl rfl (p_assignP rfl) ?_
  refine VR.nil ?_
  repeat (first | refine VC.seq ?_ | refine VC.block ?_ | refine VC.skip ?_)
  refine VC.ret ⟨_, ResOf.r1 (v := .pointer _) rfl rfl, ?_⟩
  exact ⟨g, m, ⟨min (max now 0) 1152921504606846976, 0, []⟩, rfl, rfl, ⟨Ents.nil _ _, by show 0 ≤ min (max now 0) 1152921504606846976 ∧ min (max now 0) 1152921504606846976 ≤ 1152921504606846976; omega, by simp⟩, hm⟩

/-- A session heard of now: it is there, or comes to be. -/
theorem hear_c {F : Env} {w : World} {g m : Nat} {B : Bk} {s t : Int} (hm : Mem F w (bkB g m B)) (hB : BkOk B) (hs : 1 ≤ s) (ht : 1 ≤ t ∧ t ≤ 1000) :
    Calls Try.prog 22 #[.pointer (some ⟨g, 0, none⟩), .int .i64 s, .int .i64 t] w (Ret fun v w' => ∃ B', B'.abs = ⟨B.now, putS B.abs.fs (s, t, endOf B.now t)⟩ ∧ BkOk B' ∧ Mem F w' (bkB g m B')) := by
  have hn := hB.now
  have he := end_ok hn ht
  have hq : (B.now + t + 3) / 4 * 4 = endOf B.now t := rfl
  unfold bkB at hm
  refine Calls.of_vc Try.func22 rfl Try.ntmps22 rfl ?_
  rcases hit_or (fs := B.fs) s with ⟨i, f, hi, rfl⟩ | hno
  · have hie : B.ents[i]? = some f.ent := by rw [List.getElem?_map, hi]; rfl
    repeat (first | refine VC.seq ?_ | refine VC.block ?_ | refine VC.skip ?_)
    refine VC.loud (Kept F ([(g, B.obj m)] :: [])) [16] rfl (by kernel_rfl) (Kept.one hm.drew 0 rfl) ?_
    replace hm := hm.drew
    refine VL.pure rfl rfl rfl (p_moveP rfl) ?_
    refine VL.pure rfl rfl rfl (p_nilCheck rfl) ?_
    refine VL.pure rfl rfl rfl (p_field (fo := 1) Try.underlying48 rfl Try.sizeOf46 rfl rfl rfl) ?_
    refine VL.read rfl rfl rfl (fun w' hw' => r_load (v := .map _) Try.isAgg46 rfl (hw'.at_ 0 0 rfl) rfl) ?_
    refine VL.pure rfl rfl rfl (p_moveI rfl) ?_
    refine VL.pure rfl rfl rfl (p_moveI rfl) ?_
    refine VL.pure rfl rfl rfl (p_moveP rfl) ?_
    refine VL.pure rfl rfl rfl (p_nilCheck rfl) ?_
    refine VL.pure rfl rfl rfl (p_field (fo := 0) Try.underlying48 rfl Try.sizeOf2 rfl rfl rfl) ?_
    refine VL.read rfl rfl rfl (fun w' hw' => r_load (v := .int _ _) Try.isAgg2 rfl (hw'.at_ 0 0 rfl) rfl) ?_
    refine VL.pure rfl rfl rfl (p_moveI rfl) ?_
    refine VL.pure rfl rfl rfl (p_add64 rfl rfl (by omega)) ?_
    refine VL.pure rfl rfl rfl (p_add64 rfl rfl (by omega)) ?_
    refine VL.pure rfl rfl rfl (p_quo64 rfl rfl (by omega)) ?_
    refine VL.pure rfl rfl rfl (p_mul64E (r := (endOf B.now t)) rfl rfl hq (by omega)) ?_
    refine VL.pure rfl rfl rfl (p_build (vs := [(0, .int _ _), (1, .int _ _)]) bld51_0_1 rfl) ?_
    refine VL.updateHit (u := .int _ _) (v := .agg _) Try.underlying46 Try.underlying2 rfl rfl rfl rfl rfl hm 1 0 rfl hB.ents hie rfl (fun w' hm' => Kept.one hm' 0 rfl) ?_
    intro w hm
    refine VL.nil ?_
    repeat (first | refine VC.seq ?_ | refine VC.block ?_ | refine VC.skip ?_)
    simp only [mset, bset] at hm
    have hset : B.ents.set i ⟨.int .i64 f.s, .agg #[.int .i64 t, .int .i64 (endOf B.now t)], f.ent.born⟩ = (B.fs.set i ⟨f.s, t, endOf B.now t, f.born⟩).map Se.ent := by
      rw [List.map_set]
    refine ⟨_, ResOf.r0 rfl, ⟨B.now, B.clock, B.fs.set i ⟨f.s, t, endOf B.now t, f.born⟩⟩, ?_, ⟨?_, hn, fun x hx => ?_⟩, ?_⟩
    · show Ba.mk B.now ((B.fs.set i _).map Se.abs) = _
      rw [List.map_set]
      refine congrArg _ (putS_at (x := (f.s, t, endOf B.now t)) hB.apart (i := i) (f := f.abs) (by rw [List.getElem?_map, hi]; rfl) rfl).symm
    · show Ents _ ((B.fs.set i _).map Se.ent) B.clock
      rw [← hset]
      exact hB.ents.set hie _
    · rcases List.mem_or_eq_of_mem_set hx with hx | rfl
      · exact hB.each x hx
      · exact ⟨hs, ht.1, ht.2, he.1, he.2⟩
    · unfold bkB Bk.map Bk.ents
      dsimp only
      rw [← hset]
      exact hm
  · repeat (first | refine VC.seq ?_ | refine VC.block ?_ | refine VC.skip ?_)
    refine VC.loud (Kept F ([(g, B.obj m)] :: [])) [16] rfl (by kernel_rfl) (Kept.one hm.drew 0 rfl) ?_
    replace hm := hm.drew
    refine VL.pure rfl rfl rfl (p_moveP rfl) ?_
    refine VL.pure rfl rfl rfl (p_nilCheck rfl) ?_
    refine VL.pure rfl rfl rfl (p_field (fo := 1) Try.underlying48 rfl Try.sizeOf46 rfl rfl rfl) ?_
    refine VL.read rfl rfl rfl (fun w' hw' => r_load (v := .map _) Try.isAgg46 rfl (hw'.at_ 0 0 rfl) rfl) ?_
    refine VL.pure rfl rfl rfl (p_moveI rfl) ?_
    refine VL.pure rfl rfl rfl (p_moveI rfl) ?_
    refine VL.pure rfl rfl rfl (p_moveP rfl) ?_
    refine VL.pure rfl rfl rfl (p_nilCheck rfl) ?_
    refine VL.pure rfl rfl rfl (p_field (fo := 0) Try.underlying48 rfl Try.sizeOf2 rfl rfl rfl) ?_
    refine VL.read rfl rfl rfl (fun w' hw' => r_load (v := .int _ _) Try.isAgg2 rfl (hw'.at_ 0 0 rfl) rfl) ?_
    refine VL.pure rfl rfl rfl (p_moveI rfl) ?_
    refine VL.pure rfl rfl rfl (p_add64 rfl rfl (by omega)) ?_
    refine VL.pure rfl rfl rfl (p_add64 rfl rfl (by omega)) ?_
    refine VL.pure rfl rfl rfl (p_quo64 rfl rfl (by omega)) ?_
    refine VL.pure rfl rfl rfl (p_mul64E (r := (endOf B.now t)) rfl rfl hq (by omega)) ?_
    refine VL.pure rfl rfl rfl (p_build (vs := [(0, .int _ _), (1, .int _ _)]) bld51_0_1 rfl) ?_
    refine VL.updateMiss (u := .int _ _) (v := .agg _) Try.underlying46 Try.underlying2 rfl rfl rfl rfl rfl hm 1 0 rfl hB.ents (isk s) (no_key hno) (fun w' hm' => Kept.one hm' 0 rfl) ?_
    intro w hm
    refine VL.nil ?_
    repeat (first | refine VC.seq ?_ | refine VC.block ?_ | refine VC.skip ?_)
    simp only [mset, bset] at hm
    refine ⟨_, ResOf.r0 rfl, ⟨B.now, B.clock + 1, B.fs ++ [⟨s, t, endOf B.now t, B.clock⟩]⟩, ?_, ⟨?_, hn, fun x hx => ?_⟩, ?_⟩
    · show Ba.mk B.now ((B.fs ++ [_]).map Se.abs) = _
      rw [List.map_append]
      exact congrArg _ (putS_none (Bk.out hno)).symm
    · show Ents _ ((B.fs ++ [_]).map Se.ent) (B.clock + 1)
      rw [List.map_append]
      exact hB.ents.push (isk s) (no_key hno)
    · rcases List.mem_append.1 hx with hx | hx
      · exact hB.each x hx
      · rw [List.mem_singleton.1 hx]
        exact ⟨hs, ht.1, ht.2, he.1, he.2⟩
    · unfold bkB Bk.map Bk.ents
      dsimp only
      rw [List.map_append]
      exact hm

theorem has_c {F : Env} {w : World} {g m : Nat} {B : Bk} {s : Int} (hm : Mem F w (bkB g m B)) (hB : BkOk B) :
    Calls Try.prog 23 #[.pointer (some ⟨g, 0, none⟩), .int .i64 s] w (Ret fun v w' => v = .bool (inS B.abs.fs s).isSome ∧ Mem F w' (bkB g m B)) := by
  unfold bkB at hm ⊢
  refine Calls.of_vc Try.func23 rfl Try.ntmps23 rfl ?_
  repeat (first | refine VC.seq ?_ | refine VC.block ?_ | refine VC.skip ?_)
  refine VC.region ?_
  refine VR.pure rfl rfl (p_assignB rfl) ?_
  refine VR.nil ?_
  rcases hit_or (fs := B.fs) s with ⟨i, f, hi, rfl⟩ | hno
  · have hie : B.ents[i]? = some f.ent := by rw [List.getElem?_map, hi]; rfl
    have hok := hB.each f (List.mem_of_getElem? hi)
    have h1 : 0 < f.t := by have := hok.2.1; show 0 < f.t; exact this
    repeat (first | refine VC.seq ?_ | refine VC.block ?_ | refine VC.skip ?_)
    refine VC.region ?_
    refine VR.pure rfl rfl (p_moveP rfl) ?_
    refine VR.pure rfl rfl (p_neNilP Try.underlying24 rfl) ?_
    refine VR.pure rfl rfl (p_moveB rfl) ?_
    refine VR.knownT 7 rfl rfl ?_
    refine VR.pureG rfl rfl (p_moveP rfl) ?_
    refine VR.pureG rfl rfl (p_nilCheck rfl) ?_
    refine VR.pureG rfl rfl (p_field (fo := 1) Try.underlying48 rfl Try.sizeOf46 rfl rfl rfl) ?_
    refine VR.valG rfl rfl (r_load (v := .map _) Try.isAgg46 rfl (hm.at_ 0 0 rfl) rfl) ?_
    refine VR.pureG rfl rfl (p_moveI rfl) ?_
    refine VR.valG rfl rfl (r_lookup Try.underlying46 Try.underlying2 rfl rfl (hm.at_ 1 0 rfl) hB.ents hie rfl) ?_
    refine VR.pureG rfl rfl (p_fieldO Try.underlying51 rfl Try.isAgg3 rfl rfl) ?_
    refine VR.pureG rfl rfl (p_gt rfl rfl) ?_
    refine VR.pure rfl rfl (p_pickT rfl rfl) ?_
    refine VR.pure rfl rfl (p_assignB rfl) ?_
    refine VR.nil ?_
    repeat (first | refine VC.seq ?_ | refine VC.block ?_ | refine VC.skip ?_)
    refine VC.ret ⟨_, ResOf.r1 (v := .bool _) rfl rfl, ?_⟩
    refine ⟨congrArg Value.bool ?_, hm⟩
    rw [show inS B.abs.fs f.s = some f.abs from inS_at (f := f.abs) hB.apart (i := i) (show (B.fs.map Se.abs)[i]? = some f.abs by rw [List.getElem?_map, hi]; rfl)]
    exact decide_eq_true h1
  · repeat (first | refine VC.seq ?_ | refine VC.block ?_ | refine VC.skip ?_)
    refine VC.region ?_
    refine VR.pure rfl rfl (p_moveP rfl) ?_
    refine VR.pure rfl rfl (p_neNilP Try.underlying24 rfl) ?_
    refine VR.pure rfl rfl (p_moveB rfl) ?_
    refine VR.knownT 7 rfl rfl ?_
    refine VR.pureG rfl rfl (p_moveP rfl) ?_
    refine VR.pureG rfl rfl (p_nilCheck rfl) ?_
    refine VR.pureG rfl rfl (p_field (fo := 1) Try.underlying48 rfl Try.sizeOf46 rfl rfl rfl) ?_
    refine VR.valG rfl rfl (r_load (v := .map _) Try.isAgg46 rfl (hm.at_ 0 0 rfl) rfl) ?_
    refine VR.pureG rfl rfl (p_moveI rfl) ?_
    refine VR.valG rfl rfl (r_lookupNo Try.underlying46 Try.underlying2 rfl rfl Try.zeroValue51 (hm.at_ 1 0 rfl) hB.ents (isk s) (no_key hno)) ?_
    refine VR.pureG rfl rfl (p_fieldO Try.underlying51 rfl Try.isAgg3 rfl rfl) ?_
    refine VR.pureG rfl rfl (p_gt rfl rfl) ?_
    refine VR.pure rfl rfl (p_pickT rfl rfl) ?_
    refine VR.pure rfl rfl (p_assignB rfl) ?_
    refine VR.nil ?_
    repeat (first | refine VC.seq ?_ | refine VC.block ?_ | refine VC.skip ?_)
    refine VC.ret ⟨_, ResOf.r1 (v := .bool _) rfl rfl, ?_⟩
    refine ⟨congrArg Value.bool ?_, hm⟩
    rw [show inS B.abs.fs s = none from inS_none (Bk.out hno)]
    rfl
theorem BkOk.in_ {B : Bk} (h : BkOk B) {i : Nat} {f : Se} (hi : B.fs[i]? = some f) : inS B.abs.fs f.s = some f.abs := inS_at (f := f.abs) h.apart (i := i) (show (B.fs.map Se.abs)[i]? = some f.abs by rw [List.getElem?_map, hi]; rfl)
theorem add_c {F : Env} {w : World} {g m : Nat} {B : Bk} {s t : Int} (hm : Mem F w (bkB g m B)) (hB : BkOk B) :
    Calls Try.prog 11 #[.pointer (some ⟨g, 0, none⟩), .int .i64 s, .int .i64 t] w (Ret fun v w' => ∃ B', v = .int .i64 (addB B.abs s t).1 ∧ B'.abs = (addB B.abs s t).2 ∧ BkOk B' ∧ Mem F w' (bkB g m B')) := by
  unfold bkB at hm
  refine Calls.of_vc Try.func11 rfl Try.ntmps11 rfl ?_
  repeat (first | refine VC.seq ?_ | refine VC.block ?_ | refine VC.skip ?_)
  refine VC.region ?_
  refine VR.pure rfl rfl (p_assignI rfl) ?_
  refine VR.nil ?_
  repeat (first | refine VC.seq ?_ | refine VC.block ?_ | refine VC.skip ?_)
  refine VC.region ?_
  refine VR.pure rfl rfl (p_moveP rfl) ?_
  refine VR.pure rfl rfl (p_eqNilP Try.underlying24 rfl) ?_
  refine VR.pure rfl rfl (p_moveB rfl) ?_
  refine VR.knownF 9 rfl rfl ?_
  refine VR.pureG rfl rfl (p_moveP rfl) ?_
  refine VR.pureG rfl rfl (p_nilCheck rfl) ?_
  refine VR.pureG rfl rfl (p_field (fo := 1) Try.underlying48 rfl Try.sizeOf46 rfl rfl rfl) ?_
  refine VR.valG rfl rfl (r_load (v := .map _) Try.isAgg46 rfl (hm.at_ 0 0 rfl) rfl) ?_
  refine VR.pureG rfl rfl (p_eqNilM Try.underlying46 rfl) ?_
  refine VR.pure rfl rfl (p_pickF rfl rfl) ?_
  refine VR.nil ?_
  repeat (first | refine VC.seq ?_ | refine VC.block ?_ | refine VC.skip ?_)
  refine VC.condF rfl rfl ?_
  repeat (first | refine VC.seq ?_ | refine VC.block ?_ | refine VC.skip ?_)
  refine VC.region ?_
  refine VR.pure rfl rfl (p_moveI rfl) ?_
  refine VR.pure rfl rfl (p_lt rfl rfl) ?_
  refine VR.pure rfl rfl (p_moveB rfl) ?_
  refine VR.splitD 18 rfl (fun h2 => ?_) (fun h2 => ?_)
  refine VR.pass rfl rfl ?_
  refine VR.pass rfl rfl ?_
  refine VR.pure rfl rfl (p_pickT rfl rfl) ?_
  refine VR.pure rfl rfl (p_moveB rfl) ?_
  refine VR.pass rfl rfl ?_
  refine VR.pass rfl rfl ?_
  refine VR.pure rfl rfl (p_pickT rfl rfl) ?_
  refine VR.nil ?_
  rotate_left 1
  refine VR.pureG rfl rfl (p_moveI rfl) ?_
  refine VR.pureG rfl rfl (p_lt rfl rfl) ?_
  refine VR.pure rfl rfl (p_pickF rfl rfl) ?_
  refine VR.pure rfl rfl (p_moveB rfl) ?_
  refine VR.splitD 22 rfl (fun h6 => ?_) (fun h6 => ?_)
  refine VR.pass rfl rfl ?_
  refine VR.pass rfl rfl ?_
  refine VR.pure rfl rfl (p_pickT rfl rfl) ?_
  refine VR.nil ?_
  rotate_left 1
  refine VR.pureG rfl rfl (p_moveI rfl) ?_
  refine VR.pureG rfl rfl (p_gt rfl rfl) ?_
  refine VR.pure rfl rfl (p_pickF rfl rfl) ?_
  refine VR.nil ?_
  rotate_left 1
  · repeat (first | refine VC.seq ?_ | refine VC.block ?_ | refine VC.skip ?_)
    refine VC.condT rfl rfl ?_
    repeat (first | refine VC.seq ?_ | refine VC.block ?_ | refine VC.skip ?_)
    refine VC.region ?_
    refine VR.pure rfl rfl (p_assignI rfl) ?_
    refine VR.nil ?_
    repeat (first | refine VC.seq ?_ | refine VC.block ?_ | refine VC.skip ?_)
    refine VC.ret ⟨_, ResOf.r1 (v := .int _ _) rfl rfl, ?_⟩
    unfold addB
    rw [if_pos (by omega)]
    exact ⟨B, rfl, rfl, hB, hm⟩
  · repeat (first | refine VC.seq ?_ | refine VC.block ?_ | refine VC.skip ?_)
    refine VC.condT rfl rfl ?_
    repeat (first | refine VC.seq ?_ | refine VC.block ?_ | refine VC.skip ?_)
    refine VC.region ?_
    refine VR.pure rfl rfl (p_assignI rfl) ?_
    refine VR.nil ?_
    repeat (first | refine VC.seq ?_ | refine VC.block ?_ | refine VC.skip ?_)
    refine VC.ret ⟨_, ResOf.r1 (v := .int _ _) rfl rfl, ?_⟩
    unfold addB
    rw [if_pos (by omega)]
    exact ⟨B, rfl, rfl, hB, hm⟩
  · repeat (first | refine VC.seq ?_ | refine VC.block ?_ | refine VC.skip ?_)
    refine VC.condD rfl (fun h8 => ?_) (fun h8 => ?_)
    · repeat (first | refine VC.seq ?_ | refine VC.block ?_ | refine VC.skip ?_)
      refine VC.region ?_
      refine VR.pure rfl rfl (p_assignI rfl) ?_
      refine VR.nil ?_
      repeat (first | refine VC.seq ?_ | refine VC.block ?_ | refine VC.skip ?_)
      refine VC.ret ⟨_, ResOf.r1 (v := .int _ _) rfl rfl, ?_⟩
      unfold addB
      rw [if_pos (by omega)]
      exact ⟨B, rfl, rfl, hB, hm⟩
    · repeat (first | refine VC.seq ?_ | refine VC.block ?_ | refine VC.skip ?_)
      refine VC.region ?_
      refine VR.pure rfl rfl (p_moveP rfl) ?_
      refine VR.pure rfl rfl (p_moveI rfl) ?_
      refine VR.pure rfl rfl (p_moveI rfl) ?_
      refine VR.call rfl rfl (r_call3 Try.call22 rfl rfl rfl) (hear_c hm hB (by omega) (by omega)) ?_
      rintro v5 w ⟨B', ha, hB', hm⟩
      refine VR.nil ?_
      repeat (first | refine VC.seq ?_ | refine VC.block ?_ | refine VC.skip ?_)
      refine VC.region ?_
      refine VR.pure rfl rfl (p_assignI rfl) ?_
      refine VR.nil ?_
      repeat (first | refine VC.seq ?_ | refine VC.block ?_ | refine VC.skip ?_)
      refine VC.ret ⟨_, ResOf.r1 (v := .int _ _) rfl rfl, ?_⟩
      unfold addB
      rw [if_neg (by omega)]
      exact ⟨B', rfl, ha, hB', hm⟩
theorem touch_c {F : Env} {w : World} {g m : Nat} {B : Bk} {s : Int} (hm : Mem F w (bkB g m B)) (hB : BkOk B) :
    Calls Try.prog 12 #[.pointer (some ⟨g, 0, none⟩), .int .i64 s] w (Ret fun v w' => ∃ B', v = .bool (touchB B.abs s).1 ∧ B'.abs = (touchB B.abs s).2 ∧ BkOk B' ∧ Mem F w' (bkB g m B')) := by
  refine Calls.of_vc Try.func12 rfl Try.ntmps12 rfl ?_
  repeat (first | refine VC.seq ?_ | refine VC.block ?_ | refine VC.skip ?_)
  refine VC.region ?_
  refine VR.pure rfl rfl (p_assignB rfl) ?_
  refine VR.nil ?_
  repeat (first | refine VC.seq ?_ | refine VC.block ?_ | refine VC.skip ?_)
  refine VC.region ?_
  refine VR.pure rfl rfl (p_moveP rfl) ?_
  refine VR.pure rfl rfl (p_moveI rfl) ?_
  refine VR.call rfl rfl (r_call2 Try.call23 rfl rfl) (has_c hm hB) ?_
  rintro _ w ⟨rfl, hm⟩
  refine VR.pure rfl rfl (p_not rfl) ?_
  refine VR.nil ?_
  rcases hit_or (fs := B.fs) s with ⟨i, f, hi, rfl⟩ | hno
  · have hie : B.ents[i]? = some f.ent := by rw [List.getElem?_map, hi]; rfl
    have hok := hB.each f (List.mem_of_getElem? hi)
    have hin := hB.in_ hi
    have htb : touchB B.abs f.s = (true, ⟨B.now, putS B.abs.fs (f.s, f.t, endOf B.now f.t)⟩) := by
      unfold touchB
      rw [hin]
      rfl
    rw [htb]
    repeat (first | refine VC.seq ?_ | refine VC.block ?_ | refine VC.skip ?_)
    refine VC.condF rfl (by rw [hin]; rfl) ?_
    unfold bkB at hm
    repeat (first | refine VC.seq ?_ | refine VC.block ?_ | refine VC.skip ?_)
    refine VC.region ?_
    refine VR.pure rfl rfl (p_moveP rfl) ?_
    refine VR.pure rfl rfl (p_moveI rfl) ?_
    refine VR.pure rfl rfl (p_moveP rfl) ?_
    refine VR.pure rfl rfl (p_nilCheck rfl) ?_
    refine VR.pure rfl rfl (p_field (fo := 1) Try.underlying48 rfl Try.sizeOf46 rfl rfl rfl) ?_
    refine VR.val rfl rfl (r_load (v := .map _) Try.isAgg46 rfl (hm.at_ 0 0 rfl) rfl) ?_
    refine VR.pure rfl rfl (p_moveI rfl) ?_
    refine VR.val rfl rfl (r_lookup Try.underlying46 Try.underlying2 rfl rfl (hm.at_ 1 0 rfl) hB.ents hie rfl) ?_
    refine VR.pure rfl rfl (p_fieldO Try.underlying51 rfl Try.isAgg3 rfl rfl) ?_
    refine VR.call rfl rfl (r_call3 Try.call22 rfl rfl rfl) (hear_c hm hB hok.1 ⟨hok.2.1, hok.2.2.1⟩) ?_
    rintro v5 w ⟨B', ha, hB', hm⟩
    refine VR.nil ?_
    repeat (first | refine VC.seq ?_ | refine VC.block ?_ | refine VC.skip ?_)
    refine VC.region ?_
    refine VR.pure rfl rfl (p_assignB rfl) ?_
    refine VR.nil ?_
    repeat (first | refine VC.seq ?_ | refine VC.block ?_ | refine VC.skip ?_)
    refine VC.ret ⟨_, ResOf.r1 (v := .bool _) rfl rfl, ?_⟩
    exact ⟨B', rfl, ha, hB', hm⟩
  · have hin : inS B.abs.fs s = none := inS_none (Bk.out hno)
    have htb : touchB B.abs s = (false, B.abs) := by
      unfold touchB
      rw [hin]
    rw [htb]
    repeat (first | refine VC.seq ?_ | refine VC.block ?_ | refine VC.skip ?_)
    refine VC.condT rfl (by rw [hin]; rfl) ?_
    repeat (first | refine VC.seq ?_ | refine VC.block ?_ | refine VC.skip ?_)
    refine VC.region ?_
    refine VR.pure rfl rfl (p_assignB rfl) ?_
    refine VR.nil ?_
    repeat (first | refine VC.seq ?_ | refine VC.block ?_ | refine VC.skip ?_)
    refine VC.ret ⟨_, ResOf.r1 (v := .bool _) rfl rfl, ?_⟩
    exact ⟨B, rfl, rfl, hB, hm⟩
theorem map_erase {α β : Type} (f : α → β) : ∀ (l : List α) (i : Nat), (l.eraseIdx i).map f = (l.map f).eraseIdx i
  | [], _ => by simp
  | x :: r, 0 => by simp
  | x :: r, i + 1 => by
    show f x :: (r.eraseIdx i).map f = f x :: (r.map f).eraseIdx i
    rw [map_erase f r i]
theorem BkOk.less {B : Bk} (h : BkOk B) (i : Nat) : BkOk ⟨B.now, B.clock, B.fs.eraseIdx i⟩ :=
  ⟨h.ents.sub ((List.eraseIdx_sublist _ _).map _), h.now, fun x hx => h.each x ((List.eraseIdx_sublist _ _).subset hx)⟩
theorem remove_c {F : Env} {w : World} {g m : Nat} {B : Bk} {s : Int} (hm : Mem F w (bkB g m B)) (hB : BkOk B) :
    Calls Try.prog 13 #[.pointer (some ⟨g, 0, none⟩), .int .i64 s] w (Ret fun v w' => ∃ B', v = .bool (removeB B.abs s).1 ∧ B'.abs = (removeB B.abs s).2 ∧ BkOk B' ∧ Mem F w' (bkB g m B')) := by
  refine Calls.of_vc Try.func13 rfl Try.ntmps13 rfl ?_
  repeat (first | refine VC.seq ?_ | refine VC.block ?_ | refine VC.skip ?_)
  refine VC.region ?_
  refine VR.pure rfl rfl (p_assignB rfl) ?_
  refine VR.nil ?_
  repeat (first | refine VC.seq ?_ | refine VC.block ?_ | refine VC.skip ?_)
  refine VC.region ?_
  refine VR.pure rfl rfl (p_moveP rfl) ?_
  refine VR.pure rfl rfl (p_moveI rfl) ?_
  refine VR.call rfl rfl (r_call2 Try.call23 rfl rfl) (has_c hm hB) ?_
  rintro _ w ⟨rfl, hm⟩
  refine VR.pure rfl rfl (p_not rfl) ?_
  refine VR.nil ?_
  rcases hit_or (fs := B.fs) s with ⟨i, f, hi, rfl⟩ | hno
  · have hie : B.ents[i]? = some f.ent := by rw [List.getElem?_map, hi]; rfl
    have hin := hB.in_ hi
    have htb : removeB B.abs f.s = (true, ⟨B.now, delS B.abs.fs f.s⟩) := by
      unfold removeB
      rw [hin]
      rfl
    rw [htb]
    repeat (first | refine VC.seq ?_ | refine VC.block ?_ | refine VC.skip ?_)
    refine VC.condF rfl (by rw [hin]; rfl) ?_
    unfold bkB at hm
    repeat (first | refine VC.seq ?_ | refine VC.block ?_ | refine VC.skip ?_)
    refine VC.region ?_
    refine VR.pure rfl rfl (p_moveP rfl) ?_
    refine VR.pure rfl rfl (p_nilCheck rfl) ?_
    refine VR.pure rfl rfl (p_field (fo := 1) Try.underlying48 rfl Try.sizeOf46 rfl rfl rfl) ?_
    refine VR.val rfl rfl (r_load (v := .map _) Try.isAgg46 rfl (hm.at_ 0 0 rfl) rfl) ?_
    refine VR.pure rfl rfl (p_moveI rfl) ?_
    refine VR.deleteHit (u := .int _ _) Try.underlying46 Try.underlying2 rfl rfl rfl rfl hm 1 0 rfl hB.ents hie rfl ?_
    intro w hm
    refine VR.nil ?_
    repeat (first | refine VC.seq ?_ | refine VC.block ?_ | refine VC.skip ?_)
    refine VC.region ?_
    refine VR.pure rfl rfl (p_assignB rfl) ?_
    refine VR.nil ?_
    repeat (first | refine VC.seq ?_ | refine VC.block ?_ | refine VC.skip ?_)
    refine VC.ret ⟨_, ResOf.r1 (v := .bool _) rfl rfl, ?_⟩
    simp only [mset, bset] at hm
    refine ⟨⟨B.now, B.clock, B.fs.eraseIdx i⟩, rfl, ?_, hB.less i, ?_⟩
    · show Ba.mk B.now ((B.fs.eraseIdx i).map Se.abs) = _
      rw [map_erase]
      exact congrArg _ (delS_at (f := f.abs) hB.apart (by rw [List.getElem?_map, hi]; rfl)).symm
    · unfold bkB Bk.map Bk.ents
      dsimp only
      rw [map_erase]
      exact hm
  · have hin : inS B.abs.fs s = none := inS_none (Bk.out hno)
    have htb : removeB B.abs s = (false, B.abs) := by
      unfold removeB
      rw [hin]
    rw [htb]
    repeat (first | refine VC.seq ?_ | refine VC.block ?_ | refine VC.skip ?_)
    refine VC.condT rfl (by rw [hin]; rfl) ?_
    repeat (first | refine VC.seq ?_ | refine VC.block ?_ | refine VC.skip ?_)
    refine VC.region ?_
    refine VR.pure rfl rfl (p_assignB rfl) ?_
    refine VR.nil ?_
    repeat (first | refine VC.seq ?_ | refine VC.block ?_ | refine VC.skip ?_)
    refine VC.ret ⟨_, ResOf.r1 (v := .bool _) rfl rfl, ?_⟩
    exact ⟨B, rfl, rfl, hB, hm⟩
end Go.Bd
