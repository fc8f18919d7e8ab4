/- Letters that are kept, eight of them; what a chooser that is fixed votes. Conditions: as each states. -/
import Derived.Test.Ytnakbhpgcngofaa20p
import Derived.Test.Ytnakbhpgcngofaa20q
namespace Go.Bd
open Go.Proofs
set_option linter.unusedVariables false
set_option maxRecDepth 20000

theorem Kept.mem {F : Env} {w : World} {Ls : List Blks} {L : Blks} (h : Mem F w Ls) (hL : L ∈ Ls) : Kept F [L] w := by
  obtain ⟨i, hi, e⟩ := List.mem_iff_getElem.1 hL
  exact Kept.one h i (by rw [List.getElem?_eq_getElem hi, e])
theorem made_at {z : Array Value} {n s k j : Nat} (hz : z.size = s) (hj : j < s) (hk : k * s + j < n) : (madeCells z n)[0 + k * s + j]? = z[j]? := by
  have hm : (k * s + j) % s = j := by rw [Nat.add_comm, Nat.add_mul_mod_self_right, Nat.mod_eq_of_lt hj]
  have hi : j < z.size := by omega
  unfold madeCells
  rw [Nat.zero_add, Array.getElem?_map, Array.getElem?_eq_getElem (by simpa using hk), Array.getElem_range, Option.map_some, hz, hm, Array.getElem?_eq_getElem hi, getElem!_pos z j hi]
def lc0 : Lc := ⟨letZ.toList, rfl, List.all_eq_true.1 (by rfl), ⟨0, 0, 0, 0, 0, 0⟩, ⟨rfl, rfl, rfl, rfl, rfl, rfl⟩⟩
structure LastAt (cur : Array Value) (ls : List Lc) : Prop where
  size : cur.size = 8 * 43
  len : ls.length = 8
  at_ : ∀ (k : Nat) (l : Lc), ls[k]? = some l → ∀ j, j < 43 → cur[0 + k * 43 + j]? = l.cs[j]?
theorem LastAt.made {z : Array Value} (hz : z = letZ) : LastAt (madeCells z (8 * 43)) (List.replicate 8 lc0) := by
  subst hz
  refine ⟨size_madeCells _ _, rfl, fun k l hl j hj => ?_⟩
  rw [List.getElem?_replicate] at hl
  by_cases h8 : k < 8
  · rw [if_pos h8] at hl
    obtain rfl := Option.some.inj hl
    rw [made_at (s := 43) rfl hj (by omega)]
    show letZ[j]? = letZ.toList[j]?
    rw [Array.getElem?_toList]
  · rw [if_neg h8] at hl
    cases hl
theorem LastAt.set {cur : Array Value} {ls : List Lc} (h : LastAt cur ls) {k : Nat} (hk : k < 8) (l : Lc) : LastAt (lay cur (0 + k * 43) l.cs) (ls.set k l) := by
  have hs := h.size
  have hl := l.hl
  refine ⟨by rw [lay_size]; exact hs, by rw [List.length_set]; exact h.len, fun q x hx j hj => ?_⟩
  rw [lay_at _ _ _ _ (by omega)]
  rw [List.getElem?_set] at hx
  by_cases e : k = q
  · subst e
    rw [if_pos rfl, if_pos (by rw [h.len]; exact hk)] at hx
    obtain rfl := Option.some.inj hx
    rw [if_pos (by omega)]
    exact congrArg (fun i => l.cs[i]?) (by omega)
  · rw [if_neg e] at hx
    rw [if_neg (by omega)]
    exact h.at_ q x hx j hj
section
variable {F : Env} {w : World} {Ls : List Blks}
theorem vote_f {g m : Nat} {C : Ch} (hm : Mem F w Ls) (hg : F.heap g = some (C.obj m)) (hid : 1 ≤ C.id) :
    Calls Try.prog 22 #[.pointer (some ⟨g, 0, none⟩)] w (Ret fun v w' => v = .agg (letA C.round C.v) ∧ Mem F w' Ls) := by
  refine Calls.of_vc Try.func22 rfl Try.ntmps22 rfl ?_
  repeat (first | refine VC.seq ?_ | refine VC.block ?_ | refine VC.skip ?_)
  refine VC.region ?_
  refine VR.new hm rfl rfl (n_allocG Try.zeroValue52) ?_
  intro b2 w hm
  refine VR.nil ?_
  repeat (first | refine VC.seq ?_ | refine VC.block ?_ | refine VC.skip ?_)
  refine VC.region ?_
  refine VR.pure rfl rfl (p_moveP rfl) ?_
  refine VR.call rfl rfl (r_call1 Try.call35 rfl) (there_c (id := C.id) hm hg rfl) ?_
  rintro _ w ⟨rfl, hm⟩
  refine VR.pure rfl rfl (p_notD rfl) ?_
  refine VR.nil ?_
  repeat (first | refine VC.seq ?_ | refine VC.block ?_ | refine VC.skip ?_)
  refine VC.condF rfl (decide_eq_false (not_not_intro (by omega))) ?_
  repeat (first | refine VC.seq ?_ | refine VC.block ?_ | refine VC.skip ?_)
  refine VC.loud (Kept F []) [20] rfl (by kernel_rfl) (Kept.of0 hm.drew) ?_
  replace hm := hm.drew
  refine VL.pure rfl rfl rfl (p_moveP rfl) ?_
  refine VL.pure rfl rfl rfl (p_nilCheck rfl) ?_
  refine VL.pure rfl rfl rfl (p_field (fo := 5) Try.underlying67 rfl Try.sizeOf3 rfl rfl rfl) ?_
  refine VL.read rfl rfl rfl (fun w' hw' => r_load (v := .int _ _) Try.isAgg3 rfl (hw'.fix _ _ hg) rfl) ?_
  refine VL.pure rfl rfl rfl (p_moveP rfl) ?_
  refine VL.pure rfl rfl rfl (p_nilCheck rfl) ?_
  refine VL.pure rfl rfl rfl (p_field (fo := 6) Try.underlying67 rfl Try.sizeOf64 rfl rfl rfl) ?_
  refine VL.pure rfl rfl rfl (p_field (fo := 0) Try.underlying64 rfl Try.sizeOf3 rfl rfl rfl) ?_
  refine VL.read rfl rfl rfl (fun w' hw' => r_load (v := .int _ _) Try.isAgg3 rfl (hw'.fix _ _ hg) rfl) ?_
  refine VL.pure rfl rfl rfl (p_moveP rfl) ?_
  refine VL.pure rfl rfl rfl (p_nilCheck rfl) ?_
  refine VL.pure rfl rfl rfl (p_field (fo := 6) Try.underlying67 rfl Try.sizeOf64 rfl rfl rfl) ?_
  refine VL.pure rfl rfl rfl (p_field (fo := 1) Try.underlying64 rfl Try.sizeOf3 rfl rfl rfl) ?_
  refine VL.read rfl rfl rfl (fun w' hw' => r_load (v := .int _ _) Try.isAgg3 rfl (hw'.fix _ _ hg) rfl) ?_
  refine VL.pure rfl rfl rfl (p_moveP rfl) ?_
  refine VL.pure rfl rfl rfl (p_nilCheck rfl) ?_
  refine VL.pure rfl rfl rfl (p_field (fo := 6) Try.underlying67 rfl Try.sizeOf64 rfl rfl rfl) ?_
  refine VL.pure rfl rfl rfl (p_field (fo := 2) Try.underlying64 rfl Try.sizeOf22 rfl rfl rfl) ?_
  refine VL.read rfl rfl rfl (fun w' hw' => r_load (v := .int _ _) Try.isAgg22 rfl (hw'.fix _ _ hg) rfl) ?_
  refine VL.pure rfl rfl rfl (p_build (vs := [(0, .int _ _), (1, .int _ _), (2, .int _ _), (3, .int _ _), (4, .int _ _), (7, .int _ _)]) bld52_0_1_2_3_4_7 rfl) ?_
  refine VL.store (cs' := (letA C.round C.v)) (v := .agg _) Try.sizeOf52 rfl rfl rfl rfl rfl rfl hm 0 0 rfl (Nat.ble_eq.mp rfl) (lay_whole rfl) (fun w' hm' => Kept.of0 hm') ?_
  intro w hm
  refine VL.nil ?_
  repeat (first | refine VC.seq ?_ | refine VC.block ?_ | refine VC.skip ?_)
  refine VC.ret ⟨_, ResOf.r1 (v := .agg _) rfl ⟨_, rfl, run_loadVarAgg Try.isAgg52 Try.sizeOf52 (hm.at_ 0 0 rfl) (vs := (letA C.round C.v).toList) rfl (agg_at rfl)⟩, ?_⟩
  exact ⟨rfl, hm.pop⟩
end
end Go.Bd
