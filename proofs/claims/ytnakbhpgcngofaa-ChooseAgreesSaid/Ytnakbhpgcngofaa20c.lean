/- Contracts of layer 20: numbers compared; voters; configs copied. Conditions: as each states. -/
import Derived.Test.Ytnakbhpgcngofaa20u
import Derived.Test.YtnakbhpgcngofaaMap
namespace Go.Bd
open Go.Proofs
set_option linter.unusedVariables false
set_option maxRecDepth 20000

/-! ### Numbers -/
def cmpI (a b : Int) : Int := if a < b then -1 else if b < a then 1 else 0
def orI : List Int → Int
  | [] => 0
  | x :: r => if x ≠ 0 then x else orI r
/-- A vote: for whom, and why. -/
structure Vt where
  l : Int
  e : Int
  z : Int
deriving DecidableEq
def Vt.cells (v : Vt) : List Value := [.int .i64 v.l, .int .i64 v.e, .int .i64 v.z]
def betterV (v w : Vt) : Bool := decide (0 < orI [cmpI v.e w.e, cmpI v.z w.z, cmpI v.l w.l])
section
variable {F : Env} {w : World} {Ls : List Blks}
theorem nan_c {a : Int} : Calls Try.prog 71 #[.int .i64 a] w (Ret fun v w' => v = .bool false ∧ w' = w) := by
  refine Calls.of_vc Try.func71 rfl Try.ntmps71 rfl ?_
  repeat (first | refine VC.seq ?_ | refine VC.block ?_ | refine VC.skip ?_)
  refine VC.region ?_
  refine VR.pure rfl rfl (p_assignB rfl) ?_
  refine VR.nil ?_
  repeat (first | refine VC.seq ?_ | refine VC.block ?_ | refine VC.skip ?_)
  refine VC.region ?_
  refine VR.pure rfl rfl (p_moveI rfl) ?_
  refine VR.pure rfl rfl (p_moveI rfl) ?_
  refine VR.pure rfl rfl (p_ne rfl rfl) ?_
  refine VR.pure rfl rfl (p_assignB rfl) ?_
  refine VR.nil ?_
  repeat (first | refine VC.seq ?_ | refine VC.block ?_ | refine VC.skip ?_)
  refine VC.ret ⟨_, ResOf.r1 (v := .bool _) rfl rfl, ?_⟩
  exact ⟨congrArg Value.bool (decide_eq_false (not_not_intro rfl)), rfl⟩
theorem nanz_c {a : Int} : Calls Try.prog 72 #[.int .i64 a] w (Ret fun v w' => v = .bool false ∧ w' = w) := by
  refine Calls.of_vc Try.func72 rfl Try.ntmps72 rfl ?_
  repeat (first | refine VC.seq ?_ | refine VC.block ?_ | refine VC.skip ?_)
  refine VC.region ?_
  refine VR.pure rfl rfl (p_assignB rfl) ?_
  refine VR.nil ?_
  repeat (first | refine VC.seq ?_ | refine VC.block ?_ | refine VC.skip ?_)
  refine VC.region ?_
  refine VR.pure rfl rfl (p_moveI rfl) ?_
  refine VR.pure rfl rfl (p_moveI rfl) ?_
  refine VR.pure rfl rfl (p_ne rfl rfl) ?_
  refine VR.pure rfl rfl (p_assignB rfl) ?_
  refine VR.nil ?_
  repeat (first | refine VC.seq ?_ | refine VC.block ?_ | refine VC.skip ?_)
  refine VC.ret ⟨_, ResOf.r1 (v := .bool _) rfl rfl, ?_⟩
  exact ⟨congrArg Value.bool (decide_eq_false (not_not_intro rfl)), rfl⟩
theorem cmp_c {a b : Int} : Calls Try.prog 58 #[.int .i64 a, .int .i64 b] w (Ret fun v w' => v = .int .i64 (cmpI a b) ∧ w' = w) := by
  refine Calls.of_vc Try.func58 rfl Try.ntmps58 rfl ?_
  repeat (first | refine VC.seq ?_ | refine VC.block ?_ | refine VC.skip ?_)
  refine VC.region ?_
  refine VR.pure rfl rfl (p_assignI rfl) ?_
  refine VR.nil ?_
  repeat (first | refine VC.seq ?_ | refine VC.block ?_ | refine VC.skip ?_)
  refine VC.region ?_
  refine VR.pure rfl rfl (p_moveI rfl) ?_
  refine VR.call rfl rfl (r_call1 Try.call71 rfl) (nan_c) ?_
  rintro _ _ ⟨rfl, rfl⟩
  refine VR.pure rfl rfl (p_assignB rfl) ?_
  refine VR.nil ?_
  repeat (first | refine VC.seq ?_ | refine VC.block ?_ | refine VC.skip ?_)
  refine VC.region ?_
  refine VR.pure rfl rfl (p_moveI rfl) ?_
  refine VR.call rfl rfl (r_call1 Try.call71 rfl) (nan_c) ?_
  rintro _ _ ⟨rfl, rfl⟩
  refine VR.pure rfl rfl (p_assignB rfl) ?_
  refine VR.nil ?_
  repeat (first | refine VC.seq ?_ | refine VC.block ?_ | refine VC.skip ?_)
  refine VC.region ?_
  refine VR.pure rfl rfl (p_moveB rfl) ?_
  refine VR.nil ?_
  repeat (first | refine VC.seq ?_ | refine VC.block ?_ | refine VC.skip ?_)
  refine VC.condF rfl rfl ?_
  repeat (first | refine VC.seq ?_ | refine VC.block ?_ | refine VC.skip ?_)
  refine VC.region ?_
  refine VR.pure rfl rfl (p_moveB rfl) ?_
  refine VR.nil ?_
  repeat (first | refine VC.seq ?_ | refine VC.block ?_ | refine VC.skip ?_)
  refine VC.condF rfl rfl ?_
  repeat (first | refine VC.seq ?_ | refine VC.block ?_ | refine VC.skip ?_)
  refine VC.region ?_
  refine VR.pure rfl rfl (p_moveI rfl) ?_
  refine VR.pure rfl rfl (p_moveI rfl) ?_
  refine VR.pure rfl rfl (p_lt rfl rfl) ?_
  refine VR.nil ?_
  repeat (first | refine VC.seq ?_ | refine VC.block ?_ | refine VC.skip ?_)
  refine VC.condD rfl (fun h9 => ?_) (fun h9 => ?_)
  · repeat (first | refine VC.seq ?_ | refine VC.block ?_ | refine VC.skip ?_)
    refine VC.region ?_
    refine VR.pure rfl rfl (p_assignI rfl) ?_
    refine VR.nil ?_
    repeat (first | refine VC.seq ?_ | refine VC.block ?_ | refine VC.skip ?_)
    refine VC.ret ⟨_, ResOf.r1 (v := .int _ _) rfl rfl, ?_⟩
    exact ⟨congrArg (Value.int .i64) (by unfold cmpI; rw [if_pos h9]), rfl⟩
  · repeat (first | refine VC.seq ?_ | refine VC.block ?_ | refine VC.skip ?_)
    refine VC.region ?_
    refine VR.pure rfl rfl (p_moveI rfl) ?_
    refine VR.pure rfl rfl (p_moveI rfl) ?_
    refine VR.pure rfl rfl (p_gt rfl rfl) ?_
    refine VR.nil ?_
    repeat (first | refine VC.seq ?_ | refine VC.block ?_ | refine VC.skip ?_)
    refine VC.condD rfl (fun h11 => ?_) (fun h11 => ?_)
    · repeat (first | refine VC.seq ?_ | refine VC.block ?_ | refine VC.skip ?_)
      refine VC.region ?_
      refine VR.pure rfl rfl (p_assignI rfl) ?_
      refine VR.nil ?_
      repeat (first | refine VC.seq ?_ | refine VC.block ?_ | refine VC.skip ?_)
      refine VC.ret ⟨_, ResOf.r1 (v := .int _ _) rfl rfl, ?_⟩
      exact ⟨congrArg (Value.int .i64) (by unfold cmpI; rw [if_neg h9, if_pos (by omega)]), rfl⟩
    · repeat (first | refine VC.seq ?_ | refine VC.block ?_ | refine VC.skip ?_)
      refine VC.region ?_
      refine VR.pure rfl rfl (p_assignI rfl) ?_
      refine VR.nil ?_
      repeat (first | refine VC.seq ?_ | refine VC.block ?_ | refine VC.skip ?_)
      refine VC.ret ⟨_, ResOf.r1 (v := .int _ _) rfl rfl, ?_⟩
      exact ⟨congrArg (Value.int .i64) (by unfold cmpI; rw [if_neg h9, if_neg (by omega)]), rfl⟩
theorem cmpz_c {a b : Int} : Calls Try.prog 59 #[.int .i64 a, .int .i64 b] w (Ret fun v w' => v = .int .i64 (cmpI a b) ∧ w' = w) := by
  refine Calls.of_vc Try.func59 rfl Try.ntmps59 rfl ?_
  repeat (first | refine VC.seq ?_ | refine VC.block ?_ | refine VC.skip ?_)
  refine VC.region ?_
  refine VR.pure rfl rfl (p_assignI rfl) ?_
  refine VR.nil ?_
  repeat (first | refine VC.seq ?_ | refine VC.block ?_ | refine VC.skip ?_)
  refine VC.region ?_
  refine VR.pure rfl rfl (p_moveI rfl) ?_
  refine VR.call rfl rfl (r_call1 Try.call72 rfl) (nanz_c) ?_
  rintro _ _ ⟨rfl, rfl⟩
  refine VR.pure rfl rfl (p_assignB rfl) ?_
  refine VR.nil ?_
  repeat (first | refine VC.seq ?_ | refine VC.block ?_ | refine VC.skip ?_)
  refine VC.region ?_
  refine VR.pure rfl rfl (p_moveI rfl) ?_
  refine VR.call rfl rfl (r_call1 Try.call72 rfl) (nanz_c) ?_
  rintro _ _ ⟨rfl, rfl⟩
  refine VR.pure rfl rfl (p_assignB rfl) ?_
  refine VR.nil ?_
  repeat (first | refine VC.seq ?_ | refine VC.block ?_ | refine VC.skip ?_)
  refine VC.region ?_
  refine VR.pure rfl rfl (p_moveB rfl) ?_
  refine VR.nil ?_
  repeat (first | refine VC.seq ?_ | refine VC.block ?_ | refine VC.skip ?_)
  refine VC.condF rfl rfl ?_
  repeat (first | refine VC.seq ?_ | refine VC.block ?_ | refine VC.skip ?_)
  refine VC.region ?_
  refine VR.pure rfl rfl (p_moveB rfl) ?_
  refine VR.nil ?_
  repeat (first | refine VC.seq ?_ | refine VC.block ?_ | refine VC.skip ?_)
  refine VC.condF rfl rfl ?_
  repeat (first | refine VC.seq ?_ | refine VC.block ?_ | refine VC.skip ?_)
  refine VC.region ?_
  refine VR.pure rfl rfl (p_moveI rfl) ?_
  refine VR.pure rfl rfl (p_moveI rfl) ?_
  refine VR.pure rfl rfl (p_lt rfl rfl) ?_
  refine VR.nil ?_
  repeat (first | refine VC.seq ?_ | refine VC.block ?_ | refine VC.skip ?_)
  refine VC.condD rfl (fun h9 => ?_) (fun h9 => ?_)
  · repeat (first | refine VC.seq ?_ | refine VC.block ?_ | refine VC.skip ?_)
    refine VC.region ?_
    refine VR.pure rfl rfl (p_assignI rfl) ?_
    refine VR.nil ?_
    repeat (first | refine VC.seq ?_ | refine VC.block ?_ | refine VC.skip ?_)
    refine VC.ret ⟨_, ResOf.r1 (v := .int _ _) rfl rfl, ?_⟩
    exact ⟨congrArg (Value.int .i64) (by unfold cmpI; rw [if_pos h9]), rfl⟩
  · repeat (first | refine VC.seq ?_ | refine VC.block ?_ | refine VC.skip ?_)
    refine VC.region ?_
    refine VR.pure rfl rfl (p_moveI rfl) ?_
    refine VR.pure rfl rfl (p_moveI rfl) ?_
    refine VR.pure rfl rfl (p_gt rfl rfl) ?_
    refine VR.nil ?_
    repeat (first | refine VC.seq ?_ | refine VC.block ?_ | refine VC.skip ?_)
    refine VC.condD rfl (fun h11 => ?_) (fun h11 => ?_)
    · repeat (first | refine VC.seq ?_ | refine VC.block ?_ | refine VC.skip ?_)
      refine VC.region ?_
      refine VR.pure rfl rfl (p_assignI rfl) ?_
      refine VR.nil ?_
      repeat (first | refine VC.seq ?_ | refine VC.block ?_ | refine VC.skip ?_)
      refine VC.ret ⟨_, ResOf.r1 (v := .int _ _) rfl rfl, ?_⟩
      exact ⟨congrArg (Value.int .i64) (by unfold cmpI; rw [if_neg h9, if_pos (by omega)]), rfl⟩
    · repeat (first | refine VC.seq ?_ | refine VC.block ?_ | refine VC.skip ?_)
      refine VC.region ?_
      refine VR.pure rfl rfl (p_assignI rfl) ?_
      refine VR.nil ?_
      repeat (first | refine VC.seq ?_ | refine VC.block ?_ | refine VC.skip ?_)
      refine VC.ret ⟨_, ResOf.r1 (v := .int _ _) rfl rfl, ?_⟩
      exact ⟨congrArg (Value.int .i64) (by unfold cmpI; rw [if_neg h9, if_neg (by omega)]), rfl⟩
theorem drop_get {α : Type} {xs : List α} {k : Nat} {x : α} (h : xs[k]? = some x) : xs.drop k = x :: xs.drop (k + 1) := by
  obtain ⟨h1, h2⟩ := List.getElem?_eq_some_iff.1 h
  rw [List.drop_eq_getElem_cons h1, h2]
theorem or_c {A : Option Addr} {n c : Nat} {xs : List Int} (hm : Mem F w Ls) (hn : n ≤ 1000) (hr : Row F.heap A n (xs.map (Value.int .i64))) :
    Calls Try.prog 57 #[.slice A n c] w (Ret fun v w' => v = .int .i64 (orI xs) ∧ Mem F w' Ls) := by
  have hl : xs.length = n := by have := hr.len; rwa [List.length_map] at this
  refine Calls.of_vc Try.func57 rfl Try.ntmps57 rfl ?_
  repeat (first | refine VC.seq ?_ | refine VC.block ?_ | refine VC.skip ?_)
  refine VC.region ?_
  refine VR.pure rfl rfl (p_assignI rfl) ?_
  refine VR.nil ?_
  repeat (first | refine VC.seq ?_ | refine VC.block ?_ | refine VC.skip ?_)
  refine VC.region ?_
  refine VR.pure rfl rfl (p_assignI rfl) ?_
  refine VR.nil ?_
  repeat (first | refine VC.seq ?_ | refine VC.block ?_ | refine VC.skip ?_)
  refine VC.region ?_
  refine VR.pure rfl rfl (p_moveL rfl) ?_
  refine VR.pure rfl rfl (p_len Try.underlying70 rfl) ?_
  refine VR.pure rfl rfl (p_moveI rfl) ?_
  refine VR.nil ?_
  repeat (first | refine VC.seq ?_ | refine VC.block ?_ | refine VC.skip ?_)
  refine VC.loop (σ := Nat) (fun k => [(3, .int .i64 0), (6, .slice A n c), (7, .int .i64 n), (8, .int .i64 k)]) (fun k w => Mem F w Ls ∧ k ≤ n ∧ orI xs = orI (xs.drop k)) (fun k => n - k) 0 ⟨rfl, rfl, rfl, rfl, trivial⟩ ⟨hm, by omega, rfl⟩ ?_
  clear hm
  rintro k A' w ⟨hm, hk, ho⟩
  repeat (first | refine VC.seq ?_ | refine VC.block ?_ | refine VC.skip ?_)
  refine VC.region ?_
  refine VR.pure rfl rfl (p_lt rfl rfl) ?_
  refine VR.nil ?_
  repeat (first | refine VC.seq ?_ | refine VC.block ?_ | refine VC.skip ?_)
  refine VC.condD rfl (fun h => ?_) (fun h => ?_)
  · have hk' : k < n := by omega
    obtain ⟨x, hx, _⟩ := get_of (xs := xs) (k := k) (by omega)
    obtain ⟨b, off, blk, T, fr, rfl, hb, hc⟩ := Row.get hr (by omega)
    rw [drop_get hx] at ho
    repeat (first | refine VC.seq ?_ | refine VC.block ?_ | refine VC.skip ?_)
    refine VC.region ?_
    refine VR.pure rfl rfl (p_idx1 Try.underlying70 Try.sizeOf3 rfl rfl hk') ?_
    refine VR.val rfl rfl (r_load (v := .int _ _) Try.isAgg3 rfl (hm.fix _ _ hb) ((hc k hk').trans (ints_at hx))) ?_
    refine VR.pure rfl rfl (p_assignI rfl) ?_
    refine VR.nil ?_
    repeat (first | refine VC.seq ?_ | refine VC.block ?_ | refine VC.skip ?_)
    refine VC.region ?_
    refine VR.pure rfl rfl (p_moveI rfl) ?_
    refine VR.pure rfl rfl (p_moveI rfl) ?_
    refine VR.pure rfl rfl (p_ne rfl rfl) ?_
    refine VR.nil ?_
    repeat (first | refine VC.seq ?_ | refine VC.block ?_ | refine VC.skip ?_)
    refine VC.condD rfl (fun h5 => ?_) (fun h5 => ?_)
    · repeat (first | refine VC.seq ?_ | refine VC.block ?_ | refine VC.skip ?_)
      refine VC.region ?_
      refine VR.pure rfl rfl (p_moveI rfl) ?_
      refine VR.pure rfl rfl (p_assignI rfl) ?_
      refine VR.nil ?_
      repeat (first | refine VC.seq ?_ | refine VC.block ?_ | refine VC.skip ?_)
      refine VC.ret ⟨_, ResOf.r1 (v := .int _ _) rfl rfl, ?_⟩
      refine ⟨congrArg (Value.int .i64) ?_, hm⟩
      rw [ho]
      show x = if x ≠ 0 then x else _
      rw [if_pos h5]
    · repeat (first | refine VC.seq ?_ | refine VC.block ?_ | refine VC.skip ?_)
      refine VC.region ?_
      refine VR.pure rfl rfl (p_add64 rfl rfl (by omega)) ?_
      refine VR.pure rfl rfl (p_moveI rfl) ?_
      refine VR.nil ?_
      refine ⟨k + 1, ⟨rfl, rfl, rfl, rfl, trivial⟩, ⟨hm, by omega, ?_⟩, by omega⟩
      rw [ho]
      show (if x ≠ 0 then x else _) = _
      rw [if_neg h5]
  · repeat (first | refine VC.seq ?_ | refine VC.block ?_ | refine VC.skip ?_)
    refine VC.exit ?_
    repeat (first | refine VC.seq ?_ | refine VC.block ?_ | refine VC.skip ?_)
    refine VC.region ?_
    refine VR.pure rfl rfl (p_moveI rfl) ?_
    refine VR.pure rfl rfl (p_assignI rfl) ?_
    refine VR.nil ?_
    repeat (first | refine VC.seq ?_ | refine VC.block ?_ | refine VC.skip ?_)
    refine VC.ret ⟨_, ResOf.r1 (v := .int _ _) rfl rfl, ?_⟩
    refine ⟨congrArg (Value.int .i64) ?_, hm⟩
    rw [ho, List.drop_of_length_le (by omega)]
    rfl
theorem better_c {v u : Vt} (hm : Mem F w Ls) : Calls Try.prog 37 #[.agg #[.int .i64 v.l, .int .i64 v.e, .int .i64 v.z], .agg #[.int .i64 u.l, .int .i64 u.e, .int .i64 u.z]] w (Ret fun r w' => r = .bool (betterV v u) ∧ Mem F w' Ls) := by
  refine Calls.of_vc Try.func37 rfl Try.ntmps37 rfl ?_
  repeat (first | refine VC.seq ?_ | refine VC.block ?_ | refine VC.skip ?_)
  refine VC.region ?_
  refine VR.new hm rfl rfl (n_boxG rfl) ?_
  intro b2 w hm
  refine VR.new hm rfl rfl (n_boxG rfl) ?_
  intro b3 w hm
  refine VR.pure rfl rfl (p_assignB rfl) ?_
  refine VR.nil ?_
  obtain ⟨G1, hu1, hm, hb3⟩ := hm.freeze
  obtain ⟨G, hu2, hm, hb2⟩ := hm.freeze
  replace hb3 := hu2.heap _ _ (hb3 _ (.head _))
  replace hb2 := hb2 _ (.head _)
  repeat (first | refine VC.seq ?_ | refine VC.block ?_ | refine VC.skip ?_)
  refine VC.loud (Kept G []) [4, 9, 14, 15, 16] rfl (by kernel_rfl) (Kept.of0 hm.drew) ?_
  replace hm := hm.drew
  refine VL.pure rfl rfl rfl (p_field (fo := 1) Try.underlying64 rfl Try.sizeOf3 rfl rfl rfl) ?_
  refine VL.read rfl rfl rfl (fun w' hw' => r_load (v := .int _ _) Try.isAgg3 rfl (hw'.fix _ _ hb2) rfl) ?_
  refine VL.pure rfl rfl rfl (p_field (fo := 1) Try.underlying64 rfl Try.sizeOf3 rfl rfl rfl) ?_
  refine VL.read rfl rfl rfl (fun w' hw' => r_load (v := .int _ _) Try.isAgg3 rfl (hw'.fix _ _ hb3) rfl) ?_
  refine VL.call rfl rfl rfl (r_call2 Try.call58 rfl rfl) (cmp_c) ?_
  rintro _ _ ⟨rfl, rfl⟩
  refine ⟨Kept.of0 hm, ?_⟩
  refine VL.pure rfl rfl rfl (p_field (fo := 2) Try.underlying64 rfl Try.sizeOf22 rfl rfl rfl) ?_
  refine VL.read rfl rfl rfl (fun w' hw' => r_load (v := .int _ _) Try.isAgg22 rfl (hw'.fix _ _ hb2) rfl) ?_
  refine VL.pure rfl rfl rfl (p_field (fo := 2) Try.underlying64 rfl Try.sizeOf22 rfl rfl rfl) ?_
  refine VL.read rfl rfl rfl (fun w' hw' => r_load (v := .int _ _) Try.isAgg22 rfl (hw'.fix _ _ hb3) rfl) ?_
  refine VL.call rfl rfl rfl (r_call2 Try.call59 rfl rfl) (cmpz_c) ?_
  rintro _ _ ⟨rfl, rfl⟩
  refine ⟨Kept.of0 hm, ?_⟩
  refine VL.pure rfl rfl rfl (p_field (fo := 0) Try.underlying64 rfl Try.sizeOf3 rfl rfl rfl) ?_
  refine VL.read rfl rfl rfl (fun w' hw' => r_load (v := .int _ _) Try.isAgg3 rfl (hw'.fix _ _ hb2) rfl) ?_
  refine VL.pure rfl rfl rfl (p_field (fo := 0) Try.underlying64 rfl Try.sizeOf3 rfl rfl rfl) ?_
  refine VL.read rfl rfl rfl (fun w' hw' => r_load (v := .int _ _) Try.isAgg3 rfl (hw'.fix _ _ hb3) rfl) ?_
  refine VL.call rfl rfl rfl (r_call2 Try.call58 rfl rfl) (cmp_c) ?_
  rintro _ _ ⟨rfl, rfl⟩
  refine ⟨Kept.of0 hm, ?_⟩
  refine VL.new hm rfl rfl rfl (n_buildSlice1 (vs := [.int _ _, .int _ _, .int _ _]) Try.underlying70 inf3 rfl rfl rfl rfl rfl rfl rfl) (fun b' w' hm' => Kept.of0 hm') ?_
  intro b15 w hm
  refine VL.call rfl rfl rfl (r_call1 Try.call57 rfl) (or_c (xs := [cmpI v.e u.e, cmpI v.z u.z, cmpI v.l u.l]) hm.all (by decide) (Row.lit (cs := [.int .i64 (cmpI v.e u.e), .int .i64 (cmpI v.z u.z), .int .i64 (cmpI v.l u.l)]) (hm.plus_at 0 0 rfl))) ?_
  rintro _ w ⟨rfl, hm'⟩
  replace hm := hm.back0 hm'
  refine ⟨Kept.of0 hm, ?_⟩
  refine VL.pure rfl rfl rfl (p_gt rfl rfl) ?_
  refine VL.pure rfl rfl rfl (p_assignB rfl) ?_
  refine VL.nil ?_
  repeat (first | refine VC.seq ?_ | refine VC.block ?_ | refine VC.skip ?_)
  refine VC.ret ⟨_, ResOf.r1 (v := .bool _) rfl rfl, ?_⟩
  exact ⟨rfl, hm.pop.shrink (hu1.trans hu2)⟩

/-! ### Voters -/
def findE (ms : List Mb) (id : Int) : Option Mb := ms.find? fun m => decide (m.id = id)
def voterE (ms : List Mb) (id : Int) : Bool := match findE ms id with
  | some m => decide (m.role = 1)
  | none => false
theorem find_first {ms : List Mb} {id : Int} {k : Nat} {m : Mb} (h : ms[k]? = some m) (he : m.id = id) (hno : ∀ j x, j < k → ms[j]? = some x → x.id ≠ id) : findE ms id = some m := by
  have h1 : findE (ms.drop 0) id = findE (ms.drop k) id := by
    have : ∀ j, j ≤ k → findE (ms.drop 0) id = findE (ms.drop j) id := by
      intro j
      induction j with
      | zero => intro _; rfl
      | succ j ih =>
        intro hj
        have hlt := (List.getElem?_eq_some_iff.1 h).1
        obtain ⟨x, hx, _⟩ := get_of (xs := ms) (k := j) (by omega)
        rw [ih (by omega), drop_get hx]
        unfold findE
        rw [List.find?_cons, decide_eq_false (hno j x (by omega) hx)]
    exact this k (Nat.le_refl _)
  rw [List.drop_zero] at h1
  rw [h1, drop_get h]
  unfold findE
  rw [List.find?_cons, decide_eq_true he]
theorem find_none {ms : List Mb} {id : Int} (hno : ∀ j x, j < ms.length → ms[j]? = some x → x.id ≠ id) : findE ms id = none := by
  unfold findE
  rw [List.find?_eq_none]
  intro x hx
  obtain ⟨j, hj, rfl⟩ := List.mem_iff_getElem.1 hx
  simpa using hno j _ hj (List.getElem?_eq_getElem hj)
theorem findf_c {b : Nat} {id : Int} {m : Mb} (hm : Mem F w Ls) (hb : F.heap b = some (.cells #[.int .i64 id] 3 (0, 0))) :
    Calls Try.prog 66 #[.agg #[.int .i64 m.id, .int .u8 m.role, .int .i64 m.weight, .int .i64 m.group], .pointer (some ⟨b, 0, none⟩)] w (Ret fun v w' => v = .bool (decide (m.id = id)) ∧ Mem F w' Ls) := by
  refine Calls.of_vc Try.func66 rfl Try.ntmps66 rfl ?_
  repeat (first | refine VC.seq ?_ | refine VC.block ?_ | refine VC.skip ?_)
  refine VC.region ?_
  refine VR.new hm rfl rfl (n_boxG rfl) ?_
  intro g w hm
  refine VR.pure rfl rfl (p_assignB rfl) ?_
  refine VR.nil ?_
  repeat (first | refine VC.seq ?_ | refine VC.block ?_ | refine VC.skip ?_)
  refine VC.region ?_
  refine VR.pure rfl rfl (p_field (fo := 0) Try.underlying99 rfl Try.sizeOf3 rfl rfl rfl) ?_
  refine VR.val rfl rfl (r_load (v := .int _ _) Try.isAgg3 rfl (hm.at_ 0 0 rfl) rfl) ?_
  refine VR.val rfl rfl (r_load (v := .int _ _) Try.isAgg3 rfl (hm.fix _ _ hb) rfl) ?_
  refine VR.pure rfl rfl (p_eq rfl rfl) ?_
  refine VR.pure rfl rfl (p_assignB rfl) ?_
  refine VR.nil ?_
  repeat (first | refine VC.seq ?_ | refine VC.block ?_ | refine VC.skip ?_)
  refine VC.ret ⟨_, ResOf.r1 (v := .bool _) rfl rfl, ?_⟩
  exact ⟨rfl, hm.pop⟩
theorem indexM_c {b : Nat} {id : Int} {A : Option Addr} {n c : Nat} {ms : List Mb} (hm : Mem F w Ls) (hb : F.heap b = some (.cells #[.int .i64 id] 3 (0, 0))) (hn : n ≤ maxLen) (hr : MRow F.heap A n ms) :
    Calls Try.prog 65 #[.slice A n c, .func (.func 66) #[] #[.pointer (some ⟨b, 0, none⟩)]] w
      (Ret fun v w' => (∃ z, v = .int .i64 z ∧ ((∃ (k : Nat) (m : Mb), z = k ∧ ms[k]? = some m ∧ findE ms id = some m) ∨ (z = -1 ∧ findE ms id = none))) ∧ Mem F w' Ls) := by
  have hl := hr.len
  unfold maxLen at hn
  refine Calls.of_vc Try.func65 rfl Try.ntmps65 rfl ?_
  repeat (first | refine VC.seq ?_ | refine VC.block ?_ | refine VC.skip ?_)
  refine VC.region ?_
  refine VR.pure rfl rfl (p_assignI rfl) ?_
  refine VR.nil ?_
  repeat (first | refine VC.seq ?_ | refine VC.block ?_ | refine VC.skip ?_)
  refine VC.region ?_
  refine VR.pure rfl rfl (p_moveL rfl) ?_
  refine VR.pure rfl rfl (p_len Try.underlying40 rfl) ?_
  refine VR.pure rfl rfl (p_moveI rfl) ?_
  refine VR.nil ?_
  repeat (first | refine VC.seq ?_ | refine VC.block ?_ | refine VC.skip ?_)
  refine VC.loop (σ := Nat) (fun k => [(0, .slice A n c), (1, .func (.func 66) #[] #[.pointer (some ⟨b, 0, none⟩)]), (7, .int .i64 n), (8, .int .i64 k)]) (fun k w => Mem F w Ls ∧ k ≤ n ∧ ∀ j x, j < k → ms[j]? = some x → x.id ≠ id) (fun k => n - k) 0 ⟨rfl, rfl, rfl, rfl, trivial⟩ ⟨hm, by omega, by omega⟩ ?_
  clear hm
  rintro k A' w ⟨hm, hk, hno⟩
  repeat (first | refine VC.seq ?_ | refine VC.block ?_ | refine VC.skip ?_)
  refine VC.region ?_
  refine VR.pure rfl rfl (p_lt rfl rfl) ?_
  refine VR.nil ?_
  repeat (first | refine VC.seq ?_ | refine VC.block ?_ | refine VC.skip ?_)
  refine VC.condD rfl (fun h => ?_) (fun h => ?_)
  · have hk' : k < n := by omega
    obtain ⟨m, hmk, _⟩ := drop_mb (ms := ms) (k := k) (by omega)
    obtain ⟨b', off, blk, T, fr, rfl, hb', hcc⟩ := hr.elem Mb.len (by decide) (by omega)
    repeat (first | refine VC.seq ?_ | refine VC.block ?_ | refine VC.skip ?_)
    refine VC.region ?_
    refine VR.pure rfl rfl (p_moveI rfl) ?_
    refine VR.pure rfl rfl (p_assignI rfl) ?_
    refine VR.nil ?_
    repeat (first | refine VC.seq ?_ | refine VC.block ?_ | refine VC.skip ?_)
    refine VC.region ?_
    refine VR.pure rfl rfl (p_moveF rfl) ?_
    refine VR.pure rfl rfl (p_moveL rfl) ?_
    refine VR.pure rfl rfl (p_moveI rfl) ?_
    refine VR.pure rfl rfl (p_idxN Try.underlying40 Try.sizeOf99 rfl rfl hk') ?_
    refine VR.val rfl rfl (r_loadAgg (vs := [.int .i64 m.id, .int .u8 m.role, .int .i64 m.weight, .int .i64 m.group]) Try.isAgg99 Try.sizeOf99 rfl (hm.fix _ _ hb') rfl (hcc k m hmk)) ?_
    refine VR.call rfl rfl (r_callV Try.call66 rfl rfl) (findf_c (m := m) hm hb) ?_
    rintro _ w ⟨rfl, hm⟩
    refine VR.nil ?_
    repeat (first | refine VC.seq ?_ | refine VC.block ?_ | refine VC.skip ?_)
    refine VC.condD rfl (fun h4 => ?_) (fun h4 => ?_)
    · repeat (first | refine VC.seq ?_ | refine VC.block ?_ | refine VC.skip ?_)
      refine VC.region ?_
      refine VR.pure rfl rfl (p_moveI rfl) ?_
      refine VR.pure rfl rfl (p_assignI rfl) ?_
      refine VR.nil ?_
      repeat (first | refine VC.seq ?_ | refine VC.block ?_ | refine VC.skip ?_)
      refine VC.ret ⟨_, ResOf.r1 (v := .int _ _) rfl rfl, ?_⟩
      exact ⟨⟨_, rfl, .inl ⟨k, m, rfl, hmk, find_first hmk h4 hno⟩⟩, hm⟩
    · repeat (first | refine VC.seq ?_ | refine VC.block ?_ | refine VC.skip ?_)
      refine VC.region ?_
      refine VR.pure rfl rfl (p_add64 rfl rfl (by omega)) ?_
      refine VR.pure rfl rfl (p_moveI rfl) ?_
      refine VR.nil ?_
      refine ⟨k + 1, ⟨rfl, rfl, rfl, rfl, trivial⟩, ⟨hm, by omega, fun j x hj hx => ?_⟩, by omega⟩
      rcases Nat.lt_or_eq_of_le (Nat.le_of_lt_succ hj) with hj | rfl
      · exact hno j x hj hx
      · rw [hmk] at hx
        obtain rfl := Option.some.inj hx
        exact h4
  · repeat (first | refine VC.seq ?_ | refine VC.block ?_ | refine VC.skip ?_)
    refine VC.exit ?_
    repeat (first | refine VC.seq ?_ | refine VC.block ?_ | refine VC.skip ?_)
    refine VC.region ?_
    refine VR.pure rfl rfl (p_assignI rfl) ?_
    refine VR.nil ?_
    repeat (first | refine VC.seq ?_ | refine VC.block ?_ | refine VC.skip ?_)
    refine VC.ret ⟨_, ResOf.r1 (v := .int _ _) rfl rfl, ?_⟩
    exact ⟨⟨_, rfl, .inr ⟨rfl, find_none fun j x hj hx => hno j x (by omega) hx⟩⟩, hm⟩
def mb0 : Mb := ⟨0, 0, 0, 0⟩
theorem find_c {e : En} {id : Int} (hm : Mem F w Ls) (hn : e.n ≤ maxLen) (hr : MRow F.heap e.A e.n e.ms) :
    Calls Try.prog 46 #[.agg #[.int .i64 e.ver, .slice e.A e.n e.c], .int .i64 id] w
      (Ret fun v w' => v = .tuple #[.agg #[.int .i64 ((findE e.ms id).getD mb0).id, .int .u8 ((findE e.ms id).getD mb0).role, .int .i64 ((findE e.ms id).getD mb0).weight, .int .i64 ((findE e.ms id).getD mb0).group], .bool (findE e.ms id).isSome] ∧ Mem F w' Ls) := by
  have hl := hr.len
  refine Calls.of_vc Try.func46 rfl Try.ntmps46 rfl ?_
  repeat (first | refine VC.seq ?_ | refine VC.block ?_ | refine VC.skip ?_)
  refine VC.region ?_
  refine VR.new hm rfl rfl (n_boxG rfl) ?_
  intro b2 w hm
  refine VR.new hm rfl rfl (n_box1 (v := .int _ _) rfl rfl) ?_
  intro b3 w hm
  refine VR.new hm rfl rfl (n_allocG Try.zeroValue99) ?_
  intro b4 w hm
  refine VR.pure rfl rfl (p_assignB rfl) ?_
  refine VR.nil ?_
  replace hm := hm.pull 1 rfl
  obtain ⟨G, hu, hm, hb3⟩ := (show Mem F w ([(b3, .cells #[.int .i64 id] 3 (0, 0))] :: [(b4, .cells #[.int .i64 0, .int .u8 0, .int .i64 0, .int .i64 0] 99 (0, 0))] :: [(b2, .cells #[.int .i64 e.ver, .slice e.A e.n e.c] 42 (0, 0))] :: Ls) from hm).freeze
  replace hb3 := hb3 _ (.head _)
  repeat (first | refine VC.seq ?_ | refine VC.block ?_ | refine VC.skip ?_)
  refine VC.region ?_
  refine VR.pure rfl rfl (p_field (fo := 1) Try.underlying42 rfl Try.sizeOf40 rfl rfl rfl) ?_
  refine VR.val rfl rfl (r_load (v := .slice _ _ _) Try.isAgg40 rfl (hm.at_ 1 0 rfl) rfl) ?_
  refine VR.pure rfl rfl (p_makeFunc (vs := []) (cs := [.pointer _]) rfl rfl) ?_
  refine VR.call rfl rfl (r_call2 Try.call65 rfl rfl) (indexM_c (id := id) hm hb3 hn (hr.mono hu.heap)) ?_
  rintro _ w ⟨⟨z, rfl, hz⟩, hm⟩
  refine VR.pure rfl rfl (p_assignI rfl) ?_
  refine VR.nil ?_
  repeat (first | refine VC.seq ?_ | refine VC.block ?_ | refine VC.skip ?_)
  refine VC.region ?_
  refine VR.pure rfl rfl (p_moveI rfl) ?_
  refine VR.pure rfl rfl (p_lt rfl rfl) ?_
  refine VR.nil ?_
  rcases hz with ⟨k, m, rfl, hmk, hfind⟩ | ⟨rfl, hfind⟩
  · rw [hfind]
    repeat (first | refine VC.seq ?_ | refine VC.block ?_ | refine VC.skip ?_)
    refine VC.condD rfl (fun h2 => ?_) (fun h2 => ?_)
    · omega
    · have hk' : k < e.n := by
        have := (List.getElem?_eq_some_iff.1 hmk).1
        omega
      obtain ⟨b', off, blk, T, fr, hA, hb', hcc⟩ := (hr.mono hu.heap).elem Mb.len (by decide) (by omega)
      rw [hA] at hm
      repeat (first | refine VC.seq ?_ | refine VC.block ?_ | refine VC.skip ?_)
      refine VC.region ?_
      refine VR.pure rfl rfl (p_field (fo := 1) Try.underlying42 rfl Try.sizeOf40 rfl rfl rfl) ?_
      refine VR.val rfl rfl (r_load (v := .slice _ _ _) Try.isAgg40 rfl (hm.at_ 1 0 rfl) rfl) ?_
      refine VR.pure rfl rfl (p_moveI rfl) ?_
      refine VR.pure rfl rfl (p_idxN Try.underlying40 Try.sizeOf99 rfl rfl hk') ?_
      refine VR.val rfl rfl (r_loadAgg (vs := [.int .i64 m.id, .int .u8 m.role, .int .i64 m.weight, .int .i64 m.group]) Try.isAgg99 Try.sizeOf99 rfl (hm.fix _ _ hb') rfl (hcc k m hmk)) ?_
      refine VR.store (cs' := #[.int .i64 m.id, .int .u8 m.role, .int .i64 m.weight, .int .i64 m.group]) (v := .agg _) Try.sizeOf99 rfl rfl rfl rfl rfl hm 0 0 rfl (Nat.ble_eq.mp rfl) rfl ?_
      intro w hm
      refine VR.pure rfl rfl (p_assignB rfl) ?_
      refine VR.nil ?_
      repeat (first | refine VC.seq ?_ | refine VC.block ?_ | refine VC.skip ?_)
      refine VC.ret ⟨_, ResOf.r2 (v := .agg _) (u := .bool _) rfl ⟨_, rfl, run_loadVarAgg Try.isAgg99 Try.sizeOf99 (hm.at_ 0 0 rfl) (vs := [.int .i64 m.id, .int .u8 m.role, .int .i64 m.weight, .int .i64 m.group]) rfl (agg_at rfl)⟩ rfl, ?_⟩
      exact ⟨rfl, hm.pop.pop.shrink hu⟩
  · rw [hfind]
    repeat (first | refine VC.seq ?_ | refine VC.block ?_ | refine VC.skip ?_)
    refine VC.condD rfl (fun h2 => ?_) (fun h2 => ?_)
    · repeat (first | refine VC.seq ?_ | refine VC.block ?_ | refine VC.skip ?_)
      refine VC.region ?_
      refine VR.pure rfl rfl (p_build (vs := []) bld99_0x rfl) ?_
      refine VR.store (cs' := #[.int .i64 0, .int .u8 0, .int .i64 0, .int .i64 0]) (v := .agg _) Try.sizeOf99 rfl rfl rfl rfl rfl hm 0 0 rfl (Nat.ble_eq.mp rfl) rfl ?_
      intro w hm
      refine VR.pure rfl rfl (p_assignB rfl) ?_
      refine VR.nil ?_
      repeat (first | refine VC.seq ?_ | refine VC.block ?_ | refine VC.skip ?_)
      refine VC.ret ⟨_, ResOf.r2 (v := .agg _) (u := .bool _) rfl ⟨_, rfl, run_loadVarAgg Try.isAgg99 Try.sizeOf99 (hm.at_ 0 0 rfl) (vs := [.int .i64 0, .int .u8 0, .int .i64 0, .int .i64 0]) rfl (agg_at rfl)⟩ rfl, ?_⟩
      exact ⟨rfl, hm.pop.pop.shrink hu⟩
    · omega
theorem voter_c {e : En} {id : Int} (hm : Mem F w Ls) (hn : e.n ≤ maxLen) (hr : MRow F.heap e.A e.n e.ms) :
    Calls Try.prog 26 #[.agg #[.int .i64 e.ver, .slice e.A e.n e.c], .int .i64 id] w (Ret fun v w' => v = .bool (voterE e.ms id) ∧ Mem F w' Ls) := by
  refine Calls.of_vc Try.func26 rfl Try.ntmps26 rfl ?_
  repeat (first | refine VC.seq ?_ | refine VC.block ?_ | refine VC.skip ?_)
  refine VC.region ?_
  refine VR.new hm rfl rfl (n_boxG rfl) ?_
  intro b2 w hm
  refine VR.pure rfl rfl (p_assignB rfl) ?_
  refine VR.nil ?_
  repeat (first | refine VC.seq ?_ | refine VC.block ?_ | refine VC.skip ?_)
  refine VC.region ?_
  refine VR.val rfl rfl (r_loadAgg (vs := [.int _ _, .slice _ _ _]) Try.isAgg42 Try.sizeOf42 rfl (hm.at_ 0 0 rfl) rfl (agg_at rfl)) ?_
  refine VR.pure rfl rfl (p_moveI rfl) ?_
  refine VR.call rfl rfl (r_call2 Try.call46 rfl rfl) (find_c (e := e) (id := id) hm hn hr) ?_
  rintro _ w ⟨rfl, hm⟩
  refine VR.pure rfl rfl (p_moveT rfl) ?_
  refine VR.pure rfl rfl (p_extract rfl rfl) ?_
  refine VR.pure rfl rfl (p_extract rfl rfl) ?_
  refine VR.new hm rfl rfl (n_allocG Try.zeroValue99) ?_
  intro b5 w hm
  refine VR.store (cs' := #[.int .i64 ((findE e.ms id).getD mb0).id, .int .u8 ((findE e.ms id).getD mb0).role, .int .i64 ((findE e.ms id).getD mb0).weight, .int .i64 ((findE e.ms id).getD mb0).group]) (v := .agg _) Try.sizeOf99 rfl rfl rfl rfl rfl hm 0 0 rfl (Nat.ble_eq.mp rfl) rfl ?_
  intro w hm
  refine VR.pure rfl rfl (p_assignB rfl) ?_
  refine VR.nil ?_
  unfold voterE
  cases hf : findE e.ms id with
  | none =>
    repeat (first | refine VC.seq ?_ | refine VC.block ?_ | refine VC.skip ?_)
    refine VC.region ?_
    refine VR.pure rfl rfl (p_moveB rfl) ?_
    refine VR.pure rfl rfl (p_moveB rfl) ?_
    refine VR.knownF 14 rfl rfl ?_
    refine VR.pass rfl rfl ?_
    refine VR.pass rfl rfl ?_
    refine VR.pass rfl rfl ?_
    refine VR.pure rfl rfl (p_pickF rfl rfl) ?_
    refine VR.pure rfl rfl (p_assignB rfl) ?_
    refine VR.nil ?_
    repeat (first | refine VC.seq ?_ | refine VC.block ?_ | refine VC.skip ?_)
    refine VC.ret ⟨_, ResOf.r1 (v := .bool _) rfl rfl, ?_⟩
    exact ⟨rfl, hm.pop.pop⟩
  | some m =>
    repeat (first | refine VC.seq ?_ | refine VC.block ?_ | refine VC.skip ?_)
    refine VC.region ?_
    refine VR.pure rfl rfl (p_moveB rfl) ?_
    refine VR.pure rfl rfl (p_moveB rfl) ?_
    refine VR.knownT 14 rfl rfl ?_
    refine VR.pureG rfl rfl (p_field (fo := 1) Try.underlying99 rfl Try.sizeOf97 rfl rfl rfl) ?_
    refine VR.valG rfl rfl (r_load (v := .int _ _) Try.isAgg97 rfl (hm.at_ 0 0 rfl) rfl) ?_
    refine VR.pureG rfl rfl (p_eq rfl rfl) ?_
    refine VR.pure rfl rfl (p_pickT rfl rfl) ?_
    refine VR.pure rfl rfl (p_assignB rfl) ?_
    refine VR.nil ?_
    repeat (first | refine VC.seq ?_ | refine VC.block ?_ | refine VC.skip ?_)
    refine VC.ret ⟨_, ResOf.r1 (v := .bool _) rfl rfl, ?_⟩
    exact ⟨congrArg Value.bool (by rw [hf]; rfl), hm.pop.pop⟩
end
end Go.Bd
