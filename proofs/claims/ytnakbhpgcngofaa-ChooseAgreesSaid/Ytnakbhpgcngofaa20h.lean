/- Contracts of layer 20: what a chooser does with what it hears. Conditions: as each states. -/
import Derived.Test.Ytnakbhpgcngofaa20f
namespace Go.Bd
open Go.Proofs
set_option linter.unusedVariables false
set_option maxRecDepth 20000

structure Lt where
  k : Int
  s : Int
  r : Int
  l : Int
  e : Int
  z : Int
structure LetAt (cs : Array Value) (t : Lt) : Prop where
  k : cs[0]? = some (.int .u8 t.k)
  s : cs[1]? = some (.int .u8 t.s)
  r : cs[2]? = some (.int .i64 t.r)
  l : cs[3]? = some (.int .i64 t.l)
  e : cs[4]? = some (.int .i64 t.e)
  z : cs[7]? = some (.int .i64 t.z)
theorem letA_at (round : Int) (v : Vt) : LetAt (letA round v) ⟨1, 1, round, v.l, v.e, v.z⟩ := ⟨rfl, rfl, rfl, rfl, rfl, rfl⟩
abbrev Lt.vt (t : Lt) : Vt := ⟨t.l, t.e, t.z⟩
def inH (hs : List (Int × Vt)) (frm : Int) : Option (Int × Vt) := hs.find? fun f => decide (f.1 = frm)
def putH (hs : List (Int × Vt)) (frm : Int) (u : Vt) : List (Int × Vt) := match inH hs frm with
  | some _ => hs.map fun f => if f.1 = frm then (frm, u) else f
  | none => hs ++ [(frm, u)]
def hearOk (a : Ca) (frm : Int) (t : Lt) : Bool := decide (t.k = 1 ∧ t.s = 1 ∧ 1 ≤ frm ∧ frm ≤ 7 ∧ frm ≠ a.id ∧ a.round ≤ t.r)
def roundA (a : Ca) (t : Lt) : Ca := if a.round < t.r then turnA a t.r else a
def hearA (a : Ca) (frm : Int) (t : Lt) : Bool × Ca :=
  if hearOk a frm t = true then
    if betterV t.vt (roundA a t).v = true then (true, ⟨a.id, a.me, a.es, (roundA a t).round, t.vt, putH (roundA a t).hs frm t.vt, 0⟩)
    else (decide (a.round < t.r), ⟨a.id, a.me, a.es, (roundA a t).round, (roundA a t).v, putH (roundA a t).hs frm t.vt, (roundA a t).calm⟩)
  else (false, a)
theorem round_id (a : Ca) (t : Lt) : (roundA a t).id = a.id ∧ (roundA a t).me = a.me ∧ (roundA a t).es = a.es := by
  unfold roundA
  split <;> exact ⟨rfl, rfl, rfl⟩
theorem hearA_no {a : Ca} {frm : Int} {t : Lt} (h : ¬ (t.k = 1 ∧ t.s = 1 ∧ 1 ≤ frm ∧ frm ≤ 7 ∧ frm ≠ a.id ∧ a.round ≤ t.r)) : hearA a frm t = (false, a) := by
  unfold hearA hearOk
  rw [decide_eq_false h]
  rfl

abbrev ApartH (hs : List (Int × Vt)) : Prop := hs.Pairwise fun x y => x.1 ≠ y.1
theorem inH_at : ∀ {hs : List (Int × Vt)} {i : Nat} {f : Int × Vt}, ApartH hs → hs[i]? = some f → inH hs f.1 = some f
  | [], _, _, _, h => by simp at h
  | x :: r, 0, f, _, h => by
    obtain rfl := Option.some.inj (show some x = some f from h)
    unfold inH
    rw [List.find?_cons, decide_eq_true rfl]
  | x :: r, i + 1, f, hp, h => by
    obtain ⟨h1, h2⟩ := List.pairwise_cons.1 hp
    have hf : f ∈ r := List.mem_of_getElem? (show r[i]? = some f from h)
    have := inH_at (i := i) h2 h
    unfold inH at this ⊢
    rw [List.find?_cons, decide_eq_false (h1 f hf)]
    exact this
theorem inH_none {hs : List (Int × Vt)} {s : Int} (h : ∀ f ∈ hs, f.1 ≠ s) : inH hs s = none := by
  unfold inH
  rw [List.find?_eq_none]
  intro f hf
  simpa using h f hf
theorem putH_at {hs : List (Int × Vt)} {i : Nat} {f : Int × Vt} {u : Vt} (hp : ApartH hs) (h : hs[i]? = some f) : putH hs f.1 u = hs.set i (f.1, u) := by
  unfold putH
  rw [inH_at hp h]
  apply List.ext_getElem?
  intro j
  show (hs.map _)[j]? = _
  rw [List.getElem?_map, List.getElem?_set]
  obtain ⟨hi, hfi⟩ := List.getElem?_eq_some_iff.1 h
  by_cases e : i = j
  · subst e
    rw [if_pos rfl, if_pos hi, h]
    show some (if f.1 = f.1 then (f.1, u) else f) = _
    rw [if_pos rfl]
  · rw [if_neg e]
    cases hj : hs[j]? with
    | none => rfl
    | some y =>
      obtain ⟨hj', hxj⟩ := List.getElem?_eq_some_iff.1 hj
      have hne : y.1 ≠ f.1 := by
        have hp' := List.pairwise_iff_getElem.1 hp
        rcases Nat.lt_or_gt_of_ne e with hlt | hlt
        · have := hp' i j hi hj' hlt
          rw [hfi, hxj] at this
          exact this.symm
        · have := hp' j i hj' hi hlt
          rwa [hfi, hxj] at this
      show some (if y.1 = f.1 then (f.1, u) else y) = some y
      rw [if_neg hne]
theorem putH_none {hs : List (Int × Vt)} {frm : Int} {u : Vt} (h : ∀ f ∈ hs, f.1 ≠ frm) : putH hs frm u = hs ++ [(frm, u)] := by
  unfold putH
  rw [inH_none h]
theorem ChOk.apart {H : Nat → Option Obj} {C : Ch} (h : ChOk H C) : ApartH (C.hs.map He.abs) := by
  have h1 := h.ents.apart
  rw [List.pairwise_map] at h1
  exact List.pairwise_map.2 (h1.imp fun hne e => hne (congrArg (Value.int .i64) e))
theorem hit_or {hs : List He} (s : Int) : (∃ (i : Nat) (f : He), hs[i]? = some f ∧ f.id = s) ∨ ∀ f ∈ hs, f.id ≠ s := by
  by_cases h : ∃ f ∈ hs, f.id = s
  · obtain ⟨f, hf, e⟩ := h
    obtain ⟨i, hi, rfl⟩ := List.mem_iff_getElem.1 hf
    exact .inl ⟨i, _, List.getElem?_eq_getElem hi, e⟩
  · exact .inr fun f hf e => h ⟨f, hf, e⟩
theorem isk (s : Int) : MapKept.IsKey (.int .i64) (.int .i64 s) := rfl
theorem no_key {hs : List He} {s : Int} (h : ∀ f ∈ hs, f.id ≠ s) : ∀ x ∈ hs.map He.ent, x.key ≠ .int .i64 s := fun x hx e => by
  obtain ⟨f, hf, rfl⟩ := List.mem_map.1 hx
  exact h f hf (by injection e)

theorem congr3 {i i' : Int} {me me' : Vt} {es es' : List (Int × List Mb)} {r c : Int} {v : Vt} {hs : List (Int × Vt)} (h1 : i = i') (h2 : me = me') (h3 : es = es') : (⟨i, me, es, r, v, hs, c⟩ : Ca) = ⟨i', me', es', r, v, hs, c⟩ := by
  rw [h1, h2, h3]
section
variable {F : Env} {w : World} {Ls : List Blks}
set_option maxHeartbeats 4000000 in
theorem hear_c {g m : Nat} {C : Ch} {frm : Int} {cs : Array Value} {t : Lt} (hm : Mem F w ([(g, C.obj m)] :: [(m, C.map)] :: Ls)) (hC : ChOk F.heap C) (ht : LetAt cs t) :
    Calls Try.prog 15 #[.pointer (some ⟨g, 0, none⟩), .int .i64 frm, .agg cs] w
      (Ret fun v w' => ∃ m' C', v = .bool (hearA C.abs frm t).1 ∧ ChOk F.heap C' ∧ C'.abs = (hearA C.abs frm t).2 ∧ Mem F w' ([(g, C'.obj m')] :: [(m', C'.map)] :: Ls)) := by
  have hid := hC.id
  refine Calls.of_vc Try.func15 rfl Try.ntmps15 rfl ?_
  repeat (first | refine VC.seq ?_ | refine VC.block ?_ | refine VC.skip ?_)
  refine VC.region ?_
  refine VR.new hm rfl rfl (n_boxG rfl) ?_
  intro b5 w hm
  refine VR.pure rfl rfl (p_assignB rfl) ?_
  refine VR.nil ?_
  obtain ⟨G, hu, hm, hb5⟩ := hm.freeze
  replace hb5 := hb5 _ (.head _)
  repeat (first | refine VC.seq ?_ | refine VC.block ?_ | refine VC.skip ?_)
  refine VC.loud (Kept G ([(g, C.obj m)] :: [])) [1] rfl (by kernel_rfl) (Kept.one hm.drew 0 rfl) ?_
  replace hm := hm.drew
  refine VL.pure rfl rfl rfl (p_moveP rfl) ?_
  refine VL.call rfl rfl rfl (r_call1 Try.call35 rfl) (there_c (id := C.id) hm.all (hm.plus_at 0 0 rfl) rfl) ?_
  rintro _ w ⟨rfl, hm'⟩
  replace hm := hm.back0 hm'
  refine ⟨Kept.one hm 0 rfl, ?_⟩
  refine VL.pure rfl rfl rfl (p_notD rfl) ?_
  refine VL.pure rfl rfl rfl (p_moveB rfl) ?_
  refine VL.knownF 11 rfl (decide_eq_false (not_not_intro (by omega))) ?_
  refine VL.pureG rfl rfl rfl (p_field (fo := 0) Try.underlying52 rfl Try.sizeOf34 rfl rfl rfl) ?_
  refine VL.readG rfl rfl rfl (fun w' hw' => r_load (v := .int _ _) Try.isAgg34 rfl (hw'.fix _ _ hb5) ht.k) ?_
  refine VL.pureG rfl rfl rfl (p_ne rfl rfl) ?_
  refine VL.pure rfl rfl rfl (p_pickF rfl rfl) ?_
  refine VL.pure rfl rfl rfl (p_moveB rfl) ?_
  refine VL.splitD 16 rfl (fun h8 => ?_) (fun h8 => ?_)
  refine VL.pass rfl rfl ?_
  refine VL.pass rfl rfl ?_
  refine VL.pass rfl rfl ?_
  refine VL.pure rfl rfl rfl (p_pickT rfl rfl) ?_
  refine VL.pure rfl rfl rfl (p_moveB rfl) ?_
  refine VL.pass rfl rfl ?_
  refine VL.pass rfl rfl ?_
  refine VL.pure rfl rfl rfl (p_pickT rfl rfl) ?_
  refine VL.pure rfl rfl rfl (p_moveB rfl) ?_
  refine VL.pass rfl rfl ?_
  refine VL.pass rfl rfl ?_
  refine VL.pure rfl rfl rfl (p_pickT rfl rfl) ?_
  refine VL.pure rfl rfl rfl (p_moveB rfl) ?_
  refine VL.pass rfl rfl ?_
  refine VL.pass rfl rfl ?_
  refine VL.pass rfl rfl ?_
  refine VL.pass rfl rfl ?_
  refine VL.pass rfl rfl ?_
  refine VL.pass rfl rfl ?_
  refine VL.pure rfl rfl rfl (p_pickT rfl rfl) ?_
  refine VL.pure rfl rfl rfl (p_moveB rfl) ?_
  refine VL.pass rfl rfl ?_
  refine VL.pass rfl rfl ?_
  refine VL.pass rfl rfl ?_
  refine VL.pass rfl rfl ?_
  refine VL.pass rfl rfl ?_
  refine VL.pass rfl rfl ?_
  refine VL.pass rfl rfl ?_
  refine VL.pure rfl rfl rfl (p_pickT rfl rfl) ?_
  refine VL.nil ?_
  rotate_left 1
  refine VL.pureG rfl rfl rfl (p_field (fo := 1) Try.underlying52 rfl Try.sizeOf35 rfl rfl rfl) ?_
  refine VL.readG rfl rfl rfl (fun w' hw' => r_load (v := .int _ _) Try.isAgg35 rfl (hw'.fix _ _ hb5) ht.s) ?_
  refine VL.pureG rfl rfl rfl (p_ne rfl rfl) ?_
  refine VL.pure rfl rfl rfl (p_pickF rfl rfl) ?_
  refine VL.pure rfl rfl rfl (p_moveB rfl) ?_
  refine VL.splitD 21 rfl (fun h13 => ?_) (fun h13 => ?_)
  refine VL.pass rfl rfl ?_
  refine VL.pass rfl rfl ?_
  refine VL.pure rfl rfl rfl (p_pickT rfl rfl) ?_
  refine VL.pure rfl rfl rfl (p_moveB rfl) ?_
  refine VL.pass rfl rfl ?_
  refine VL.pass rfl rfl ?_
  refine VL.pure rfl rfl rfl (p_pickT rfl rfl) ?_
  refine VL.pure rfl rfl rfl (p_moveB rfl) ?_
  refine VL.pass rfl rfl ?_
  refine VL.pass rfl rfl ?_
  refine VL.pass rfl rfl ?_
  refine VL.pass rfl rfl ?_
  refine VL.pass rfl rfl ?_
  refine VL.pass rfl rfl ?_
  refine VL.pure rfl rfl rfl (p_pickT rfl rfl) ?_
  refine VL.pure rfl rfl rfl (p_moveB rfl) ?_
  refine VL.pass rfl rfl ?_
  refine VL.pass rfl rfl ?_
  refine VL.pass rfl rfl ?_
  refine VL.pass rfl rfl ?_
  refine VL.pass rfl rfl ?_
  refine VL.pass rfl rfl ?_
  refine VL.pass rfl rfl ?_
  refine VL.pure rfl rfl rfl (p_pickT rfl rfl) ?_
  refine VL.nil ?_
  rotate_left 1
  refine VL.pureG rfl rfl rfl (p_moveI rfl) ?_
  refine VL.pureG rfl rfl rfl (p_lt rfl rfl) ?_
  refine VL.pure rfl rfl rfl (p_pickF rfl rfl) ?_
  refine VL.pure rfl rfl rfl (p_moveB rfl) ?_
  refine VL.splitD 25 rfl (fun h17 => ?_) (fun h17 => ?_)
  refine VL.pass rfl rfl ?_
  refine VL.pass rfl rfl ?_
  refine VL.pure rfl rfl rfl (p_pickT rfl rfl) ?_
  refine VL.pure rfl rfl rfl (p_moveB rfl) ?_
  refine VL.pass rfl rfl ?_
  refine VL.pass rfl rfl ?_
  refine VL.pass rfl rfl ?_
  refine VL.pass rfl rfl ?_
  refine VL.pass rfl rfl ?_
  refine VL.pass rfl rfl ?_
  refine VL.pure rfl rfl rfl (p_pickT rfl rfl) ?_
  refine VL.pure rfl rfl rfl (p_moveB rfl) ?_
  refine VL.pass rfl rfl ?_
  refine VL.pass rfl rfl ?_
  refine VL.pass rfl rfl ?_
  refine VL.pass rfl rfl ?_
  refine VL.pass rfl rfl ?_
  refine VL.pass rfl rfl ?_
  refine VL.pass rfl rfl ?_
  refine VL.pure rfl rfl rfl (p_pickT rfl rfl) ?_
  refine VL.nil ?_
  rotate_left 1
  refine VL.pureG rfl rfl rfl (p_moveI rfl) ?_
  refine VL.pureG rfl rfl rfl (p_gt rfl rfl) ?_
  refine VL.pure rfl rfl rfl (p_pickF rfl rfl) ?_
  refine VL.pure rfl rfl rfl (p_moveB rfl) ?_
  refine VL.splitD 29 rfl (fun h21 => ?_) (fun h21 => ?_)
  refine VL.pass rfl rfl ?_
  refine VL.pass rfl rfl ?_
  refine VL.pass rfl rfl ?_
  refine VL.pass rfl rfl ?_
  refine VL.pass rfl rfl ?_
  refine VL.pass rfl rfl ?_
  refine VL.pure rfl rfl rfl (p_pickT rfl rfl) ?_
  refine VL.pure rfl rfl rfl (p_moveB rfl) ?_
  refine VL.pass rfl rfl ?_
  refine VL.pass rfl rfl ?_
  refine VL.pass rfl rfl ?_
  refine VL.pass rfl rfl ?_
  refine VL.pass rfl rfl ?_
  refine VL.pass rfl rfl ?_
  refine VL.pass rfl rfl ?_
  refine VL.pure rfl rfl rfl (p_pickT rfl rfl) ?_
  refine VL.nil ?_
  rotate_left 1
  refine VL.pureG rfl rfl rfl (p_moveI rfl) ?_
  refine VL.pureG rfl rfl rfl (p_moveP rfl) ?_
  refine VL.pureG rfl rfl rfl (p_nilCheck rfl) ?_
  refine VL.pureG rfl rfl rfl (p_field (fo := 0) Try.underlying67 rfl Try.sizeOf3 rfl rfl rfl) ?_
  refine VL.readG rfl rfl rfl (fun w' hw' => r_load (v := .int _ _) Try.isAgg3 rfl (hw'.at_ 0 0 rfl) rfl) ?_
  refine VL.pureG rfl rfl rfl (p_eq rfl rfl) ?_
  refine VL.pure rfl rfl rfl (p_pickF rfl rfl) ?_
  refine VL.pure rfl rfl rfl (p_moveB rfl) ?_
  refine VL.splitD 37 rfl (fun h29 => ?_) (fun h29 => ?_)
  refine VL.pass rfl rfl ?_
  refine VL.pass rfl rfl ?_
  refine VL.pass rfl rfl ?_
  refine VL.pass rfl rfl ?_
  refine VL.pass rfl rfl ?_
  refine VL.pass rfl rfl ?_
  refine VL.pass rfl rfl ?_
  refine VL.pure rfl rfl rfl (p_pickT rfl rfl) ?_
  refine VL.nil ?_
  rotate_left 1
  refine VL.pureG rfl rfl rfl (p_field (fo := 2) Try.underlying52 rfl Try.sizeOf3 rfl rfl rfl) ?_
  refine VL.readG rfl rfl rfl (fun w' hw' => r_load (v := .int _ _) Try.isAgg3 rfl (hw'.fix _ _ hb5) ht.r) ?_
  refine VL.pureG rfl rfl rfl (p_moveP rfl) ?_
  refine VL.pureG rfl rfl rfl (p_nilCheck rfl) ?_
  refine VL.pureG rfl rfl rfl (p_field (fo := 5) Try.underlying67 rfl Try.sizeOf3 rfl rfl rfl) ?_
  refine VL.readG rfl rfl rfl (fun w' hw' => r_load (v := .int _ _) Try.isAgg3 rfl (hw'.at_ 0 0 rfl) rfl) ?_
  refine VL.pureG rfl rfl rfl (p_lt rfl rfl) ?_
  refine VL.pure rfl rfl rfl (p_pickF rfl rfl) ?_
  refine VL.nil ?_
  rotate_left 1
  · repeat (first | refine VC.seq ?_ | refine VC.block ?_ | refine VC.skip ?_)
    refine VC.condT rfl rfl ?_
    repeat (first | refine VC.seq ?_ | refine VC.block ?_ | refine VC.skip ?_)
    refine VC.region ?_
    refine VR.pure rfl rfl (p_assignB rfl) ?_
    refine VR.nil ?_
    repeat (first | refine VC.seq ?_ | refine VC.block ?_ | refine VC.skip ?_)
    refine VC.ret ⟨_, ResOf.r1 (v := .bool _) rfl rfl, ?_⟩
    rw [hearA_no (a := C.abs) (by simp only [Ch.abs]; omega)]
    exact ⟨m, C, rfl, hC, rfl, hm.shrink hu⟩
  · repeat (first | refine VC.seq ?_ | refine VC.block ?_ | refine VC.skip ?_)
    refine VC.condT rfl rfl ?_
    repeat (first | refine VC.seq ?_ | refine VC.block ?_ | refine VC.skip ?_)
    refine VC.region ?_
    refine VR.pure rfl rfl (p_assignB rfl) ?_
    refine VR.nil ?_
    repeat (first | refine VC.seq ?_ | refine VC.block ?_ | refine VC.skip ?_)
    refine VC.ret ⟨_, ResOf.r1 (v := .bool _) rfl rfl, ?_⟩
    rw [hearA_no (a := C.abs) (by simp only [Ch.abs]; omega)]
    exact ⟨m, C, rfl, hC, rfl, hm.shrink hu⟩
  · repeat (first | refine VC.seq ?_ | refine VC.block ?_ | refine VC.skip ?_)
    refine VC.condT rfl rfl ?_
    repeat (first | refine VC.seq ?_ | refine VC.block ?_ | refine VC.skip ?_)
    refine VC.region ?_
    refine VR.pure rfl rfl (p_assignB rfl) ?_
    refine VR.nil ?_
    repeat (first | refine VC.seq ?_ | refine VC.block ?_ | refine VC.skip ?_)
    refine VC.ret ⟨_, ResOf.r1 (v := .bool _) rfl rfl, ?_⟩
    rw [hearA_no (a := C.abs) (by simp only [Ch.abs]; omega)]
    exact ⟨m, C, rfl, hC, rfl, hm.shrink hu⟩
  · repeat (first | refine VC.seq ?_ | refine VC.block ?_ | refine VC.skip ?_)
    refine VC.condT rfl rfl ?_
    repeat (first | refine VC.seq ?_ | refine VC.block ?_ | refine VC.skip ?_)
    refine VC.region ?_
    refine VR.pure rfl rfl (p_assignB rfl) ?_
    refine VR.nil ?_
    repeat (first | refine VC.seq ?_ | refine VC.block ?_ | refine VC.skip ?_)
    refine VC.ret ⟨_, ResOf.r1 (v := .bool _) rfl rfl, ?_⟩
    rw [hearA_no (a := C.abs) (by simp only [Ch.abs]; omega)]
    exact ⟨m, C, rfl, hC, rfl, hm.shrink hu⟩
  · repeat (first | refine VC.seq ?_ | refine VC.block ?_ | refine VC.skip ?_)
    refine VC.condT rfl rfl ?_
    repeat (first | refine VC.seq ?_ | refine VC.block ?_ | refine VC.skip ?_)
    refine VC.region ?_
    refine VR.pure rfl rfl (p_assignB rfl) ?_
    refine VR.nil ?_
    repeat (first | refine VC.seq ?_ | refine VC.block ?_ | refine VC.skip ?_)
    refine VC.ret ⟨_, ResOf.r1 (v := .bool _) rfl rfl, ?_⟩
    rw [hearA_no (a := C.abs) (by simp only [Ch.abs]; omega)]
    exact ⟨m, C, rfl, hC, rfl, hm.shrink hu⟩
  repeat (first | refine VC.seq ?_ | refine VC.block ?_ | refine VC.skip ?_)
  refine VC.condD rfl (fun h37 => ?_) (fun h37 => ?_)
  · repeat (first | refine VC.seq ?_ | refine VC.block ?_ | refine VC.skip ?_)
    refine VC.region ?_
    refine VR.pure rfl rfl (p_assignB rfl) ?_
    refine VR.nil ?_
    repeat (first | refine VC.seq ?_ | refine VC.block ?_ | refine VC.skip ?_)
    refine VC.ret ⟨_, ResOf.r1 (v := .bool _) rfl rfl, ?_⟩
    rw [hearA_no (a := C.abs) (by simp only [Ch.abs]; omega)]
    exact ⟨m, C, rfl, hC, rfl, hm.shrink hu⟩
  have hcond : t.k = 1 ∧ t.s = 1 ∧ 1 ≤ frm ∧ frm ≤ 7 ∧ frm ≠ C.id ∧ C.round ≤ t.r := by omega
  repeat (first | refine VC.seq ?_ | refine VC.block ?_ | refine VC.skip ?_)
  refine VC.loud (Kept G ([(g, C.obj m)] :: [])) [] rfl (by kernel_rfl) (Kept.one hm.drew 0 rfl) ?_
  replace hm := hm.drew
  refine VL.pure rfl rfl rfl (p_field (fo := 2) Try.underlying52 rfl Try.sizeOf3 rfl rfl rfl) ?_
  refine VL.read rfl rfl rfl (fun w' hw' => r_load (v := .int _ _) Try.isAgg3 rfl (hw'.fix _ _ hb5) ht.r) ?_
  refine VL.pure rfl rfl rfl (p_moveP rfl) ?_
  refine VL.pure rfl rfl rfl (p_nilCheck rfl) ?_
  refine VL.pure rfl rfl rfl (p_field (fo := 5) Try.underlying67 rfl Try.sizeOf3 rfl rfl rfl) ?_
  refine VL.read rfl rfl rfl (fun w' hw' => r_load (v := .int _ _) Try.isAgg3 rfl (hw'.at_ 0 0 rfl) rfl) ?_
  refine VL.pure rfl rfl rfl (p_gt rfl rfl) ?_
  refine VL.nil ?_
  repeat (first | refine VC.seq ?_ | refine VC.block ?_ | refine VC.skip ?_)
  refine VC.meet (σ := Bool × Nat × Ch) (fun s => [(0, .pointer (some ⟨g, 0, none⟩)), (1, .int .i64 frm), (5, .pointer (some ⟨b5, 0, none⟩)), (6, .bool s.1)])
    (fun s w => Mem G w ([(g, s.2.2.obj s.2.1)] :: [(s.2.1, s.2.2.map)] :: Ls) ∧ ChOk F.heap s.2.2 ∧ s.2.2.abs = roundA C.abs t ∧ s.1 = decide (C.round < t.r)) ?_ ?_
  · repeat (first | refine VC.seq ?_ | refine VC.block ?_ | refine VC.skip ?_)
    refine VC.condD rfl (fun h3 => ?_) (fun h3 => ?_)
    · repeat (first | refine VC.seq ?_ | refine VC.block ?_ | refine VC.skip ?_)
      refine VC.region ?_
      refine VR.pure rfl rfl (p_moveP rfl) ?_
      refine VR.pure rfl rfl (p_field (fo := 2) Try.underlying52 rfl Try.sizeOf3 rfl rfl rfl) ?_
      refine VR.val rfl rfl (r_load (v := .int _ _) Try.isAgg3 rfl (hm.fix _ _ hb5) ht.r) ?_
      refine VR.call rfl rfl (r_call2 Try.call36 rfl rfl) (turn_c hm (Nat.le_trans hC.n (by unfold maxLen; omega)) (hC.row.mono hu.heap)) ?_
      rintro _ w ⟨m', hm⟩
      refine VR.nil ?_
      repeat (first | refine VC.seq ?_ | refine VC.block ?_ | refine VC.skip ?_)
      refine VC.region ?_
      refine VR.pure rfl rfl (p_assignB rfl) ?_
      refine VR.nil ?_
      refine ⟨(true, m', ⟨C.id, C.me, C.A, C.n, C.c, C.es, t.r, ownV C.es C.id C.me, 0, [], 0⟩), ⟨rfl, rfl, rfl, rfl, trivial⟩, (hm.pull 2 rfl).pop, ⟨hC.row, hC.n, Ents.nil _ _, hC.id, by simp⟩, ?_, (decide_eq_true h3).symm⟩
      unfold roundA
      rw [if_pos (show C.abs.round < t.r from h3)]
      unfold Ch.abs turnA
      dsimp only
      rw [own_abs]
      rfl
    · repeat (first | refine VC.seq ?_ | refine VC.block ?_ | refine VC.skip ?_)
      refine ⟨(false, m, C), ⟨rfl, rfl, rfl, rfl, trivial⟩, hm, hC, ?_, (decide_eq_false h3).symm⟩
      unfold roundA
      rw [if_neg (show ¬ C.abs.round < t.r from h3)]
  clear hm
  rintro ⟨trn, m1, D⟩ A1 w ⟨hm, hD, hab, htr⟩
  dsimp only at hm hD hab htr ⊢
  repeat (first | refine VC.seq ?_ | refine VC.block ?_ | refine VC.skip ?_)
  refine VC.region ?_
  refine VR.pure rfl rfl (p_field (fo := 3) Try.underlying52 rfl Try.sizeOf3 rfl rfl rfl) ?_
  refine VR.val rfl rfl (r_load (v := .int _ _) Try.isAgg3 rfl (hm.fix _ _ hb5) ht.l) ?_
  refine VR.pure rfl rfl (p_field (fo := 4) Try.underlying52 rfl Try.sizeOf3 rfl rfl rfl) ?_
  refine VR.val rfl rfl (r_load (v := .int _ _) Try.isAgg3 rfl (hm.fix _ _ hb5) ht.e) ?_
  refine VR.pure rfl rfl (p_field (fo := 7) Try.underlying52 rfl Try.sizeOf22 rfl rfl rfl) ?_
  refine VR.val rfl rfl (r_load (v := .int _ _) Try.isAgg22 rfl (hm.fix _ _ hb5) ht.z) ?_
  refine VR.pure rfl rfl (p_build (vs := [(0, .int _ _), (1, .int _ _), (2, .int _ _)]) bld64_0_1_2 rfl) ?_
  refine VR.new hm rfl rfl (n_allocG Try.zeroValue64) ?_
  intro b7 w hm
  refine VR.store (cs' := #[.int .i64 t.l, .int .i64 t.e, .int .i64 t.z]) (v := .agg _) Try.sizeOf64 rfl rfl rfl rfl rfl hm 0 0 rfl (Nat.ble_eq.mp rfl) rfl ?_
  intro w hm
  refine VR.nil ?_
  obtain ⟨G2, hu2, hm, hb7⟩ := hm.freeze
  replace hb7 := hb7 _ (.head _)
  have hDi : D.id = C.id := (congrArg Ca.id hab).trans (round_id C.abs t).1
  repeat (first | refine VC.seq ?_ | refine VC.block ?_ | refine VC.skip ?_)
  refine VC.meet (σ := Ch) (fun s => [(0, .pointer (some ⟨g, 0, none⟩)), (6, .bool trn), (7, .pointer (some ⟨b7, 0, none⟩))])
    (fun s w => Mem G2 w ([(g, s.obj m1)] :: [(m1, s.map)] :: Ls) ∧ ChOk F.heap s ∧ s.abs = ⟨D.id, D.me, D.es.map En.abs, D.round, D.v, putH (D.hs.map He.abs) frm t.vt, D.calm⟩) ?_ ?_
  · rcases hit_or (hs := D.hs) frm with ⟨i, f, hi, hfi⟩ | hno
    · have hie : D.ents[i]? = some f.ent := by rw [List.getElem?_map, hi]; rfl
      subst hfi
      repeat (first | refine VC.seq ?_ | refine VC.block ?_ | refine VC.skip ?_)
      refine VC.loud (Kept G2 ([(g, D.obj m1)] :: [])) [6] rfl (by kernel_rfl) (Kept.one hm.drew 0 rfl) ?_
      replace hm := hm.drew
      refine VL.pure rfl rfl rfl (p_moveP rfl) ?_
      refine VL.pure rfl rfl rfl (p_nilCheck rfl) ?_
      refine VL.pure rfl rfl rfl (p_field (fo := 9) Try.underlying67 rfl Try.sizeOf65 rfl rfl rfl) ?_
      refine VL.read rfl rfl rfl (fun w' hw' => r_load (v := .map _) Try.isAgg65 rfl (hw'.at_ 0 0 rfl) rfl) ?_
      refine VL.pure rfl rfl rfl (p_moveI rfl) ?_
      refine VL.read rfl rfl rfl (fun w' hw' => r_loadAgg (vs := [.int .i64 t.l, .int .i64 t.e, .int .i64 t.z]) Try.isAgg64 Try.sizeOf64 rfl (hw'.fix _ _ hb7) rfl (agg_at rfl)) ?_
      refine VL.updateHit (u := .int _ _) (v := .agg _) Try.underlying65 Try.underlying3 rfl rfl rfl rfl rfl hm 1 0 rfl hD.ents hie rfl (fun w' hm' => Kept.one hm' 0 rfl) ?_
      intro w hm
      refine VL.nil ?_
      simp only [mset, bset] at hm
      have hset : D.ents.set i ⟨.int .i64 f.id, .agg #[.int .i64 t.l, .int .i64 t.e, .int .i64 t.z], f.ent.born⟩ = (D.hs.set i ⟨f.id, t.vt, f.born⟩).map He.ent := by
        rw [List.map_set]
      refine ⟨⟨D.id, D.me, D.A, D.n, D.c, D.es, D.round, D.v, D.clock, D.hs.set i ⟨f.id, t.vt, f.born⟩, D.calm⟩, ⟨rfl, rfl, rfl, trivial⟩, ?_, ⟨hD.row, hD.n, ?_, hD.id, fun x hx => ?_⟩, ?_⟩
      · unfold Ch.map Ch.ents
        dsimp only
        rw [← hset]
        exact hm
      · show Ents _ ((D.hs.set i _).map He.ent) D.clock
        rw [← hset]
        exact hD.ents.set hie _
      · rcases List.mem_or_eq_of_mem_set hx with hx | rfl
        · exact hD.heard x hx
        · exact hD.heard f (List.mem_of_getElem? hi)
      · unfold Ch.abs
        dsimp only
        rw [List.map_set]
        exact congrArg (fun hs => Ca.mk D.id D.me (D.es.map En.abs) D.round D.v hs D.calm) (putH_at (f := f.abs) (u := t.vt) hD.apart (i := i) (by rw [List.getElem?_map, hi]; rfl)).symm
    · repeat (first | refine VC.seq ?_ | refine VC.block ?_ | refine VC.skip ?_)
      refine VC.loud (Kept G2 ([(g, D.obj m1)] :: [])) [6] rfl (by kernel_rfl) (Kept.one hm.drew 0 rfl) ?_
      replace hm := hm.drew
      refine VL.pure rfl rfl rfl (p_moveP rfl) ?_
      refine VL.pure rfl rfl rfl (p_nilCheck rfl) ?_
      refine VL.pure rfl rfl rfl (p_field (fo := 9) Try.underlying67 rfl Try.sizeOf65 rfl rfl rfl) ?_
      refine VL.read rfl rfl rfl (fun w' hw' => r_load (v := .map _) Try.isAgg65 rfl (hw'.at_ 0 0 rfl) rfl) ?_
      refine VL.pure rfl rfl rfl (p_moveI rfl) ?_
      refine VL.read rfl rfl rfl (fun w' hw' => r_loadAgg (vs := [.int .i64 t.l, .int .i64 t.e, .int .i64 t.z]) Try.isAgg64 Try.sizeOf64 rfl (hw'.fix _ _ hb7) rfl (agg_at rfl)) ?_
      refine VL.updateMiss (u := .int _ _) (v := .agg _) Try.underlying65 Try.underlying3 rfl rfl rfl rfl rfl hm 1 0 rfl hD.ents (isk frm) (no_key hno) (fun w' hm' => Kept.one hm' 0 rfl) ?_
      intro w hm
      refine VL.nil ?_
      simp only [mset, bset] at hm
      refine ⟨⟨D.id, D.me, D.A, D.n, D.c, D.es, D.round, D.v, D.clock + 1, D.hs ++ [⟨frm, t.vt, D.clock⟩], D.calm⟩, ⟨rfl, rfl, rfl, trivial⟩, ?_, ⟨hD.row, hD.n, ?_, hD.id, fun x hx => ?_⟩, ?_⟩
      · unfold Ch.map Ch.ents
        dsimp only
        rw [List.map_append]
        exact hm
      · show Ents _ ((D.hs ++ [_]).map He.ent) (D.clock + 1)
        rw [List.map_append]
        exact hD.ents.push (isk frm) (no_key hno)
      · rcases List.mem_append.1 hx with hx | hx
        · exact hD.heard x hx
        · rw [List.mem_singleton.1 hx]
          exact ⟨hcond.2.2.1, hcond.2.2.2.1⟩
      · unfold Ch.abs
        dsimp only
        rw [List.map_append]
        exact congrArg (fun hs => Ca.mk D.id D.me (D.es.map En.abs) D.round D.v hs D.calm) (putH_none (hs := D.hs.map He.abs) fun f hf => by
          obtain ⟨x, hx, rfl⟩ := List.mem_map.1 hf
          exact hno x hx).symm
  clear hm
  rintro E A2 w ⟨hm, hE, hEa⟩
  have hEv : E.v = D.v := congrArg Ca.v hEa
  repeat (first | refine VC.seq ?_ | refine VC.block ?_ | refine VC.skip ?_)
  refine VC.loud (Kept G2 ([(g, E.obj m1)] :: [])) [5] rfl (by kernel_rfl) (Kept.one hm.drew 0 rfl) ?_
  replace hm := hm.drew
  refine VL.read rfl rfl rfl (fun w' hw' => r_loadAgg (vs := [.int .i64 t.l, .int .i64 t.e, .int .i64 t.z]) Try.isAgg64 Try.sizeOf64 rfl (hw'.fix _ _ hb7) rfl (agg_at rfl)) ?_
  refine VL.pure rfl rfl rfl (p_moveP rfl) ?_
  refine VL.pure rfl rfl rfl (p_nilCheck rfl) ?_
  refine VL.pure rfl rfl rfl (p_field (fo := 6) Try.underlying67 rfl Try.sizeOf64 rfl rfl rfl) ?_
  refine VL.read rfl rfl rfl (fun w' hw' => r_loadAgg (vs := [.int .i64 E.v.l, .int .i64 E.v.e, .int .i64 E.v.z]) Try.isAgg64 Try.sizeOf64 rfl (hw'.at_ 0 0 rfl) rfl (agg_at rfl)) ?_
  refine VL.call rfl rfl rfl (r_call2 Try.call37 rfl rfl) (better_c (v := t.vt) (u := E.v) hm.all) ?_
  rintro _ w ⟨rfl, hm'⟩
  replace hm := hm.back0 hm'
  refine ⟨Kept.one hm 0 rfl, ?_⟩
  refine VL.nil ?_
  have hra : roundA C.abs t = D.abs := hab.symm
  have hok : hearOk C.abs frm t = true := decide_eq_true hcond
  have hbv : betterV t.vt (roundA C.abs t).v = betterV t.vt E.v := by rw [hra, hEv]; rfl
  by_cases hb : betterV t.vt E.v = true
  · repeat (first | refine VC.seq ?_ | refine VC.block ?_ | refine VC.skip ?_)
    refine VC.condT rfl hb ?_
    have hbt := hbv.trans hb
    repeat (first | refine VC.seq ?_ | refine VC.block ?_ | refine VC.skip ?_)
    refine VC.region ?_
    refine VR.pure rfl rfl (p_moveP rfl) ?_
    refine VR.pure rfl rfl (p_moveP rfl) ?_
    refine VR.val rfl rfl (r_loadAgg (vs := [.int .i64 t.l, .int .i64 t.e, .int .i64 t.z]) Try.isAgg64 Try.sizeOf64 rfl (hm.fix _ _ hb7) rfl (agg_at rfl)) ?_
    refine VR.pure rfl rfl (p_nilCheck rfl) ?_
    refine VR.pure rfl rfl (p_field (fo := 6) Try.underlying67 rfl Try.sizeOf64 rfl rfl rfl) ?_
    refine VR.store (cs' := #[.int .i64 E.id, .int .i64 E.me.l, .int .i64 E.me.e, .int .i64 E.me.z, .slice E.A E.n E.c, .int .i64 E.round, .int .i64 t.l, .int .i64 t.e, .int .i64 t.z, .map (some m1), .int .i64 E.calm]) (v := .agg _) Try.sizeOf64 rfl rfl rfl rfl rfl hm 0 0 rfl (Nat.ble_eq.mp rfl) rfl ?_
    intro w hm
    refine VR.pure rfl rfl (p_nilCheck rfl) ?_
    refine VR.pure rfl rfl (p_field (fo := 10) Try.underlying67 rfl Try.sizeOf3 rfl rfl rfl) ?_
    refine VR.store (cs' := #[.int .i64 E.id, .int .i64 E.me.l, .int .i64 E.me.e, .int .i64 E.me.z, .slice E.A E.n E.c, .int .i64 E.round, .int .i64 t.l, .int .i64 t.e, .int .i64 t.z, .map (some m1), .int .i64 0]) (v := .int _ _) Try.sizeOf3 rfl rfl rfl rfl rfl hm 0 0 rfl (Nat.ble_eq.mp rfl) rfl ?_
    intro w hm
    refine VR.pure rfl rfl (p_assignB rfl) ?_
    refine VR.nil ?_
    repeat (first | refine VC.seq ?_ | refine VC.block ?_ | refine VC.skip ?_)
    refine VC.region ?_
    refine VR.pure rfl rfl (p_moveB rfl) ?_
    refine VR.pure rfl rfl (p_assignB rfl) ?_
    refine VR.nil ?_
    repeat (first | refine VC.seq ?_ | refine VC.block ?_ | refine VC.skip ?_)
    refine VC.ret ⟨_, ResOf.r1 (v := .bool _) rfl rfl, ?_⟩
    refine ⟨m1, ⟨E.id, E.me, E.A, E.n, E.c, E.es, E.round, t.vt, E.clock, E.hs, 0⟩, ?_, ⟨hE.row, hE.n, hE.ents, hE.id, hE.heard⟩, ?_, (hm.shrink hu2).shrink hu⟩
    · unfold hearA
      rw [if_pos hok, if_pos hbt]
    · unfold hearA
      rw [if_pos hok, if_pos hbt, hra]
      refine (congrArg (fun a : Ca => (⟨a.id, a.me, a.es, a.round, t.vt, a.hs, 0⟩ : Ca)) hEa).trans ?_
      exact congr3 ((congrArg Ca.id hab).trans (round_id _ _).1) ((congrArg Ca.me hab).trans (round_id _ _).2.1) ((congrArg Ca.es hab).trans (round_id _ _).2.2)
  · repeat (first | refine VC.seq ?_ | refine VC.block ?_ | refine VC.skip ?_)
    refine VC.condF rfl (Bool.not_eq_true _ |>.mp hb) ?_
    have hbt : ¬ betterV t.vt (roundA C.abs t).v = true := by rw [hbv]; exact hb
    repeat (first | refine VC.seq ?_ | refine VC.block ?_ | refine VC.skip ?_)
    refine VC.region ?_
    refine VR.pure rfl rfl (p_moveB rfl) ?_
    refine VR.pure rfl rfl (p_assignB rfl) ?_
    refine VR.nil ?_
    repeat (first | refine VC.seq ?_ | refine VC.block ?_ | refine VC.skip ?_)
    refine VC.ret ⟨_, ResOf.r1 (v := .bool _) rfl rfl, ?_⟩
    refine ⟨m1, E, ?_, hE, ?_, (hm.shrink hu2).shrink hu⟩
    · unfold hearA
      rw [if_pos hok, if_neg hbt, htr]
      rfl
    · unfold hearA
      rw [if_pos hok, if_neg hbt, hra, hEa]
      exact congr3 ((congrArg Ca.id hab).trans (round_id _ _).1) ((congrArg Ca.me hab).trans (round_id _ _).2.1) ((congrArg Ca.es hab).trans (round_id _ _).2.2)
end
end Go.Bd
