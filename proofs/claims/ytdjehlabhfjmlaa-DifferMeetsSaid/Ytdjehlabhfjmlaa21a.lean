/- Contracts of the functions of layer 21 that only read. Conditions: as each states. -/
import Derived.Test.YtdjehlabhfjmlaaKitz
import Derived.Test.YtdjehlabhfjmlaaNew
import Derived.Test.YtdjehlabhfjmlaaFacts
namespace Go.Bd
open Go.Proofs
set_option linter.unusedVariables false

theorem mem_take_step {xs : List Int} {z : Int} {k : Nat} (hno : ∀ j, j < k → xs.getD j 0 ≠ z) (h : xs.getD k 0 ≠ z) : ∀ j, j < k + 1 → xs.getD j 0 ≠ z := by
  intro j hj
  by_cases e : j = k
  · subst e; exact h
  · exact hno j (by omega)

theorem not_mem_of_getD {xs : List Int} {z : Int} (hno : ∀ j, j < xs.length → xs.getD j 0 ≠ z) : z ∉ xs := by
  intro h
  obtain ⟨j, hj, e⟩ := List.mem_iff_getElem.1 h
  refine hno j hj ?_
  rw [List.getD_eq_getElem?_getD, List.getElem?_eq_getElem hj]
  exact e

theorem mem_of_getD {xs : List Int} {z : Int} {k : Nat} (hk : k < xs.length) (h : xs.getD k 0 = z) : z ∈ xs := by
  rw [List.getD_eq_getElem?_getD, List.getElem?_eq_getElem hk] at h
  exact h ▸ List.getElem_mem hk

theorem has_c {F : Env} {w : World} {Ls : List Blks} {A : Option Addr} {n c : Nat} {xs : List Int} {z : Int} (hm : Mem F w Ls) (hn : n ≤ maxLen) (hr : Row F.heap A n (xs.map (Value.int .i64))) :
    Calls Try.prog 19 #[.slice A n c, .int .i64 z] w (Ret fun v w' => v = .bool (decide (z ∈ xs)) ∧ Mem F w' Ls) := by
  have hl : xs.length = n := by have := hr.len; rwa [List.length_map] at this
  unfold maxLen at hn
  refine Calls.of_vc Try.func19 rfl Try.ntmps19 rfl ?_
  repeat (first | refine VC.seq ?_ | refine VC.block ?_ | refine VC.skip ?_)
  refine VC.region ?_
  refine VR.pure rfl rfl (p_assignB rfl) ?_
  refine VR.nil ?_
  repeat (first | refine VC.seq ?_ | refine VC.block ?_ | refine VC.skip ?_)
  refine VC.region ?_
  refine VR.pure rfl rfl (p_assignI rfl) ?_
  refine VR.nil ?_
  repeat (first | refine VC.seq ?_ | refine VC.block ?_ | refine VC.skip ?_)
  refine VC.loop (σ := Nat) (fun k => [(0, .slice A n c), (1, .int .i64 z), (5, .int .i64 k)]) (fun k w => Mem F w Ls ∧ k ≤ n ∧ ∀ j, j < k → xs.getD j 0 ≠ z) (fun k => n - k) 0 ⟨rfl, rfl, rfl, trivial⟩ ⟨hm, by omega, by omega⟩ ?_
  rintro k A' w ⟨hm, hk, hno⟩
  repeat (first | refine VC.seq ?_ | refine VC.block ?_ | refine VC.skip ?_)
  refine VC.region ?_
  refine VR.pure rfl rfl (p_moveI rfl) ?_
  refine VR.pure rfl rfl (p_moveL rfl) ?_
  refine VR.pure rfl rfl (p_len Try.underlying23 rfl) ?_
  refine VR.pure rfl rfl (p_lt rfl rfl) ?_
  refine VR.nil ?_
  repeat (first | refine VC.seq ?_ | refine VC.block ?_ | refine VC.skip ?_)
  refine VC.condD rfl (fun h => ?_) (fun h => ?_)
  · have hk' : k < n := by omega
    obtain ⟨b, off, blk, T, fr, rfl, hb, hc⟩ := hr.get (by omega)
    repeat (first | refine VC.seq ?_ | refine VC.block ?_ | refine VC.skip ?_)
    refine VC.region ?_
    refine VR.pure rfl rfl (p_moveL rfl) ?_
    refine VR.pure rfl rfl (p_moveI rfl) ?_
    refine VR.pure rfl rfl (p_idx1 Try.underlying23 Try.sizeOf22 rfl rfl hk') ?_
    refine VR.val rfl rfl (r_load Try.isAgg22 rfl (hm.fix _ _ hb) (int_at hc hr.len hk')) ?_
    refine VR.pure rfl rfl (p_moveI rfl) ?_
    refine VR.pure rfl rfl (p_eq rfl rfl) ?_
    refine VR.nil ?_
    repeat (first | refine VC.seq ?_ | refine VC.block ?_ | refine VC.skip ?_)
    refine VC.condD rfl (fun h2 => ?_) (fun h2 => ?_)
    · repeat (first | refine VC.seq ?_ | refine VC.block ?_ | refine VC.skip ?_)
      refine VC.region ?_
      refine VR.pure rfl rfl (p_assignB rfl) ?_
      refine VR.nil ?_
      repeat (first | refine VC.seq ?_ | refine VC.block ?_ | refine VC.skip ?_)
      refine VC.ret ⟨_, ResOf.r1 (v := .bool _) rfl rfl, ?_⟩
      refine ⟨?_, hm⟩
      exact congrArg Value.bool (decide_eq_true (mem_of_getD (by omega) h2)).symm
    · repeat (first | refine VC.seq ?_ | refine VC.block ?_ | refine VC.skip ?_)
      refine VC.region ?_
      refine VR.pure rfl rfl (p_moveI rfl) ?_
      refine VR.pure rfl rfl (p_add64 rfl rfl (by omega)) ?_
      refine VR.pure rfl rfl (p_assignI rfl) ?_
      refine VR.nil ?_
      exact ⟨k + 1, ⟨rfl, rfl, rfl, trivial⟩, ⟨hm, by omega, mem_take_step hno h2⟩, by omega⟩
  · repeat (first | refine VC.seq ?_ | refine VC.block ?_ | refine VC.skip ?_)
    refine VC.exit ?_
    repeat (first | refine VC.seq ?_ | refine VC.block ?_ | refine VC.skip ?_)
    refine VC.region ?_
    refine VR.pure rfl rfl (p_assignB rfl) ?_
    refine VR.nil ?_
    repeat (first | refine VC.seq ?_ | refine VC.block ?_ | refine VC.skip ?_)
    refine VC.ret ⟨_, ResOf.r1 (v := .bool _) rfl rfl, ?_⟩
    refine ⟨?_, hm⟩
    exact congrArg Value.bool (decide_eq_false (not_mem_of_getD fun j hj => hno j (by omega))).symm

theorem same_lists {xs ys : List Int} (hl : xs.length = ys.length) (h : ∀ j, j < xs.length → xs.getD j 0 = ys.getD j 0) : xs = ys := by
  refine List.ext_getElem hl fun j h1 h2 => ?_
  have := h j h1
  rwa [List.getD_eq_getElem?_getD, List.getD_eq_getElem?_getD, List.getElem?_eq_getElem h1, List.getElem?_eq_getElem h2] at this

theorem same_zxids_c {F : Env} {w : World} {Ls : List Blks} {A B : Option Addr} {n c m d : Nat} {xs ys : List Int} (hm : Mem F w Ls) (hn : n ≤ maxLen)
    (hr : Row F.heap A n (xs.map (Value.int .i64))) (hs : Row F.heap B m (ys.map (Value.int .i64))) :
    Calls Try.prog 21 #[.slice A n c, .slice B m d] w (Ret fun v w' => v = .bool (decide (xs = ys)) ∧ Mem F w' Ls) := by
  have hl : xs.length = n := by have := hr.len; rwa [List.length_map] at this
  have hl2 : ys.length = m := by have := hs.len; rwa [List.length_map] at this
  unfold maxLen at hn
  refine Calls.of_vc Try.func21 rfl Try.ntmps21 rfl ?_
  repeat (first | refine VC.seq ?_ | refine VC.block ?_ | refine VC.skip ?_)
  refine VC.region ?_
  refine VR.pure rfl rfl (p_assignB rfl) ?_
  refine VR.nil ?_
  repeat (first | refine VC.seq ?_ | refine VC.block ?_ | refine VC.skip ?_)
  refine VC.region ?_
  refine VR.pure rfl rfl (p_moveL rfl) ?_
  refine VR.pure rfl rfl (p_len Try.underlying23 rfl) ?_
  refine VR.pure rfl rfl (p_moveL rfl) ?_
  refine VR.pure rfl rfl (p_len Try.underlying23 rfl) ?_
  refine VR.pure rfl rfl (p_ne rfl rfl) ?_
  refine VR.nil ?_
  repeat (first | refine VC.seq ?_ | refine VC.block ?_ | refine VC.skip ?_)
  refine VC.condD rfl (fun h => ?_) (fun h => ?_)
  · repeat (first | refine VC.seq ?_ | refine VC.block ?_ | refine VC.skip ?_)
    refine VC.region ?_
    refine VR.pure rfl rfl (p_assignB rfl) ?_
    refine VR.nil ?_
    repeat (first | refine VC.seq ?_ | refine VC.block ?_ | refine VC.skip ?_)
    refine VC.ret ⟨_, ResOf.r1 (v := .bool _) rfl rfl, ?_⟩
    refine ⟨?_, hm⟩
    exact congrArg Value.bool (decide_eq_false (fun e => h (by rw [← hl, ← hl2, e]))).symm
  · have hnm : n = m := by omega
    subst hnm
    repeat (first | refine VC.seq ?_ | refine VC.block ?_ | refine VC.skip ?_)
    refine VC.region ?_
    refine VR.pure rfl rfl (p_assignI rfl) ?_
    refine VR.nil ?_
    repeat (first | refine VC.seq ?_ | refine VC.block ?_ | refine VC.skip ?_)
    refine VC.loop (σ := Nat) (fun k => [(0, .slice A n c), (1, .slice B n d), (5, .int .i64 k)]) (fun k w => Mem F w Ls ∧ k ≤ n ∧ ∀ j, j < k → xs.getD j 0 = ys.getD j 0) (fun k => n - k) 0 ⟨rfl, rfl, rfl, trivial⟩ ⟨hm, by omega, by omega⟩ ?_
    rintro k A' w ⟨hm, hk, hno⟩
    repeat (first | refine VC.seq ?_ | refine VC.block ?_ | refine VC.skip ?_)
    refine VC.region ?_
    refine VR.pure rfl rfl (p_moveI rfl) ?_
    refine VR.pure rfl rfl (p_moveL rfl) ?_
    refine VR.pure rfl rfl (p_len Try.underlying23 rfl) ?_
    refine VR.pure rfl rfl (p_lt rfl rfl) ?_
    refine VR.nil ?_
    repeat (first | refine VC.seq ?_ | refine VC.block ?_ | refine VC.skip ?_)
    refine VC.condD rfl (fun h => ?_) (fun h => ?_)
    · have hk' : k < n := by omega
      obtain ⟨b, off, blk, T, fr, rfl, hb, hc⟩ := hr.get (by omega)
      obtain ⟨b2, off2, blk2, T2, fr2, rfl, hb2, hc2⟩ := hs.get (by omega)
      repeat (first | refine VC.seq ?_ | refine VC.block ?_ | refine VC.skip ?_)
      refine VC.loud (Kept F []) [] rfl (by kernel_rfl) (Kept.of0 hm.drew) ?_
      replace hm := hm.drew
      refine VL.pure rfl rfl rfl (p_moveL rfl) ?_
      refine VL.pure rfl rfl rfl (p_moveI rfl) ?_
      refine VL.pure rfl rfl rfl (p_idx1 Try.underlying23 Try.sizeOf22 rfl rfl hk') ?_
      refine VL.read rfl rfl rfl (fun w' hw' => r_load Try.isAgg22 rfl (hw'.fix _ _ hb) (int_at hc hr.len hk')) ?_
      refine VL.pure rfl rfl rfl (p_moveL rfl) ?_
      refine VL.pure rfl rfl rfl (p_moveI rfl) ?_
      refine VL.pure rfl rfl rfl (p_idx1 Try.underlying23 Try.sizeOf22 rfl rfl hk') ?_
      refine VL.read rfl rfl rfl (fun w' hw' => r_load Try.isAgg22 rfl (hw'.fix _ _ hb2) (int_at hc2 hs.len hk')) ?_
      refine VL.pure rfl rfl rfl (p_ne rfl rfl) ?_
      refine VL.nil ?_
      skip
      repeat (first | refine VC.seq ?_ | refine VC.block ?_ | refine VC.skip ?_)
      refine VC.condD rfl (fun h2 => ?_) (fun h2 => ?_)
      · repeat (first | refine VC.seq ?_ | refine VC.block ?_ | refine VC.skip ?_)
        refine VC.region ?_
        refine VR.pure rfl rfl (p_assignB rfl) ?_
        refine VR.nil ?_
        repeat (first | refine VC.seq ?_ | refine VC.block ?_ | refine VC.skip ?_)
        refine VC.ret ⟨_, ResOf.r1 (v := .bool _) rfl rfl, ?_⟩
        refine ⟨?_, hm⟩
        exact congrArg Value.bool (decide_eq_false (fun e => h2 (by rw [e]))).symm
      · repeat (first | refine VC.seq ?_ | refine VC.block ?_ | refine VC.skip ?_)
        refine VC.region ?_
        refine VR.pure rfl rfl (p_moveI rfl) ?_
        refine VR.pure rfl rfl (p_add64 rfl rfl (by omega)) ?_
        refine VR.pure rfl rfl (p_assignI rfl) ?_
        refine VR.nil ?_
        refine ⟨k + 1, ⟨rfl, rfl, rfl, trivial⟩, ⟨hm, by omega, fun j hj => ?_⟩, by omega⟩
        by_cases e : j = k
        · subst e; exact Classical.not_not.1 h2
        · exact hno j (by omega)
    · repeat (first | refine VC.seq ?_ | refine VC.block ?_ | refine VC.skip ?_)
      refine VC.exit ?_
      repeat (first | refine VC.seq ?_ | refine VC.block ?_ | refine VC.skip ?_)
      refine VC.region ?_
      refine VR.pure rfl rfl (p_assignB rfl) ?_
      refine VR.nil ?_
      repeat (first | refine VC.seq ?_ | refine VC.block ?_ | refine VC.skip ?_)
      refine VC.ret ⟨_, ResOf.r1 (v := .bool _) rfl rfl, ?_⟩
      refine ⟨?_, hm⟩
      exact congrArg Value.bool (decide_eq_true (same_lists (by omega) fun j hj => hno j (by omega))).symm

/-- What a leader does for a learner: 7 the deeds, 6 the image, 5 a cut. 'to': the greatest so far. -/
def wayGo (base last : Int) : Int → List Int → Int × Int
  | to, [] => if last < base then (6, 0) else (5, to)
  | to, z :: r => if z = last then (7, last) else wayGo base last (if to < z ∧ z < last then z else to) r
def way (base : Int) (l : List Int) (last : Int) : Int × Int := if last = base then (7, last) else wayGo base last base l

theorem drop_getD {xs : List Int} {k : Nat} (hk : k < xs.length) : xs.drop k = xs.getD k 0 :: xs.drop (k + 1) := by
  rw [List.drop_eq_getElem_cons hk, List.getD_eq_getElem?_getD, List.getElem?_eq_getElem hk]
  rfl

set_option maxHeartbeats 400000 in
theorem way_c {F : Env} {w : World} {Ls : List Blks} {A : Option Addr} {n c : Nat} {xs : List Int} {base last : Int} (hm : Mem F w Ls) (hn : n ≤ maxLen) (hr : Row F.heap A n (xs.map (Value.int .i64))) :
    Calls Try.prog 9 #[.int .i64 base, .slice A n c, .int .i64 last] w
      (Ret fun v w' => v = .tuple #[.int .u8 (way base xs last).1, .int .i64 (way base xs last).2] ∧ Mem F w' Ls) := by
  have hl : xs.length = n := by have := hr.len; rwa [List.length_map] at this
  unfold maxLen at hn
  refine Calls.of_vc Try.func9 rfl Try.ntmps9 rfl ?_
  repeat (first | refine VC.seq ?_ | refine VC.block ?_ | refine VC.skip ?_)
  refine VC.region ?_
  refine VR.pure rfl rfl (p_assignI rfl) ?_
  refine VR.pure rfl rfl (p_assignI rfl) ?_
  refine VR.nil ?_
  refine VC.jumps (σ := Nat × Int) 0 rfl (fun s => [(0, .int .i64 base), (1, .slice A n c), (2, .int .i64 last), (8, .int .i64 s.2), (9, .int .i64 s.1)])
    (fun s w => Mem F w Ls ∧ s.1 ≤ n ∧ last ≠ base ∧ way base xs last = wayGo base last s.2 (xs.drop s.1)) (fun s => n - s.1) ?_ ?_
  · repeat (first | refine VC.seq ?_ | refine VC.block ?_ | refine VC.skip ?_)
    refine VC.region ?_
    refine VR.pure rfl rfl (p_moveI rfl) ?_
    refine VR.pure rfl rfl (p_assignI rfl) ?_
    refine VR.pure rfl rfl (p_assignI rfl) ?_
    refine VR.nil ?_
    repeat (first | refine VC.seq ?_ | refine VC.block ?_ | refine VC.skip ?_)
    refine VC.region ?_
    refine VR.pure rfl rfl (p_moveI rfl) ?_
    refine VR.pure rfl rfl (p_moveI rfl) ?_
    refine VR.pure rfl rfl (p_eq rfl rfl) ?_
    refine VR.nil ?_
    repeat (first | refine VC.seq ?_ | refine VC.block ?_ | refine VC.skip ?_)
    refine VC.condD rfl (fun hne => ?_) (fun hne => ?_)
    · repeat (first | refine VC.seq ?_ | refine VC.block ?_ | refine VC.skip ?_)
      refine VC.region ?_
      refine VR.pure rfl rfl (p_moveI rfl) ?_
      refine VR.pure rfl rfl (p_assignI rfl) ?_
      refine VR.pure rfl rfl (p_assignI rfl) ?_
      refine VR.nil ?_
      repeat (first | refine VC.seq ?_ | refine VC.block ?_ | refine VC.skip ?_)
      refine VC.ret ⟨_, ResOf.r2 (v := .int _ _) (u := .int _ _) rfl rfl rfl, ?_⟩
      refine ⟨?_, hm⟩
      unfold way
      rw [if_pos hne]
    · repeat (first | refine VC.seq ?_ | refine VC.block ?_ | refine VC.skip ?_)
      refine VC.label ?_
      have hw : way base xs last = wayGo base last base (xs.drop 0) := by unfold way; rw [if_neg hne]; rfl
      repeat (first | refine VC.seq ?_ | refine VC.block ?_ | refine VC.skip ?_)
      refine VC.region ?_
      refine VR.pure rfl rfl (p_moveI rfl) ?_
      refine VR.pure rfl rfl (p_moveL rfl) ?_
      refine VR.pure rfl rfl (p_len Try.underlying23 rfl) ?_
      refine VR.pure rfl rfl (p_lt rfl rfl) ?_
      refine VR.nil ?_
      repeat (first | refine VC.seq ?_ | refine VC.block ?_ | refine VC.skip ?_)
      refine VC.condD rfl (fun h => ?_) (fun h => ?_)
      · have hk' : 0 < n := by omega
        obtain ⟨b, off, blk, T, fr, rfl, hb, hc⟩ := hr.get (by omega)
        repeat (first | refine VC.seq ?_ | refine VC.block ?_ | refine VC.skip ?_)
        refine VC.region ?_
        refine VR.pure rfl rfl (p_moveL rfl) ?_
        refine VR.pure rfl rfl (p_moveI rfl) ?_
        refine VR.pure rfl rfl (p_idx1 Try.underlying23 Try.sizeOf22 rfl rfl hk') ?_
        refine VR.val rfl rfl (r_load Try.isAgg22 rfl (hm.fix _ _ hb) (int_at hc hr.len hk')) ?_
        refine VR.pure rfl rfl (p_assignI rfl) ?_
        refine VR.nil ?_
        have hd := drop_getD (xs := xs) (k := 0) (by omega)
        rw [hd] at hw
        unfold wayGo at hw
        repeat (first | refine VC.seq ?_ | refine VC.block ?_ | refine VC.skip ?_)
        refine VC.region ?_
        refine VR.pure rfl rfl (p_moveI rfl) ?_
        refine VR.pure rfl rfl (p_moveI rfl) ?_
        refine VR.pure rfl rfl (p_eq rfl rfl) ?_
        refine VR.pure rfl rfl (p_assignB rfl) ?_
        refine VR.nil ?_
        repeat (first | refine VC.seq ?_ | refine VC.block ?_ | refine VC.skip ?_)
        refine VC.condD rfl (fun h2 => ?_) (fun h2 => ?_)
        · repeat (first | refine VC.seq ?_ | refine VC.block ?_ | refine VC.skip ?_)
          refine VC.region ?_
          refine VR.pure rfl rfl (p_moveI rfl) ?_
          refine VR.pure rfl rfl (p_assignI rfl) ?_
          refine VR.pure rfl rfl (p_assignI rfl) ?_
          refine VR.nil ?_
          repeat (first | refine VC.seq ?_ | refine VC.block ?_ | refine VC.skip ?_)
          refine VC.ret ⟨_, ResOf.r2 (v := .int _ _) (u := .int _ _) rfl rfl rfl, ?_⟩
          refine ⟨?_, hm⟩
          rw [hw, if_pos h2]
        · rw [if_neg h2] at hw
          repeat (first | refine VC.seq ?_ | refine VC.block ?_ | refine VC.skip ?_)
          refine VC.region ?_
          refine VR.pure rfl rfl (p_moveI rfl) ?_
          refine VR.pure rfl rfl (p_moveI rfl) ?_
          refine VR.pure rfl rfl (p_gt rfl rfl) ?_
          refine VR.pure rfl rfl (p_moveB rfl) ?_
          refine VR.splitD 33 rfl (fun h3 => ?_) (fun h3 => ?_)
          refine VR.pureG rfl rfl (p_moveI rfl) ?_
          refine VR.pureG rfl rfl (p_moveI rfl) ?_
          refine VR.pureG rfl rfl (p_lt rfl rfl) ?_
          refine VR.pure rfl rfl (p_pickT rfl rfl) ?_
          refine VR.pure rfl rfl (p_assignB rfl) ?_
          refine VR.nil ?_
          rotate_left 1
          refine VR.pass rfl rfl ?_
          refine VR.pass rfl rfl ?_
          refine VR.pass rfl rfl ?_
          refine VR.pure rfl rfl (p_pickF rfl rfl) ?_
          refine VR.pure rfl rfl (p_assignB rfl) ?_
          refine VR.nil ?_
          rotate_left 1
          · repeat (first | refine VC.seq ?_ | refine VC.block ?_ | refine VC.skip ?_)
            refine VC.condD rfl (fun h4 => ?_) (fun h4 => ?_)
            · rw [if_pos ⟨h3, h4⟩] at hw
              repeat (first | refine VC.seq ?_ | refine VC.block ?_ | refine VC.skip ?_)
              refine VC.region ?_
              refine VR.pure rfl rfl (p_moveI rfl) ?_
              refine VR.pure rfl rfl (p_assignI rfl) ?_
              refine VR.nil ?_
              repeat (first | refine VC.seq ?_ | refine VC.block ?_ | refine VC.skip ?_)
              refine VC.region ?_
              refine VR.pure rfl rfl (p_moveI rfl) ?_
              refine VR.pure rfl rfl (p_add64 rfl rfl (by omega)) ?_
              refine VR.pure rfl rfl (p_assignI rfl) ?_
              refine VR.nil ?_
              repeat (first | refine VC.seq ?_ | refine VC.block ?_ | refine VC.skip ?_)
              refine VC.goto ?_
              exact ⟨(0 + 1, _), ⟨rfl, rfl, rfl, rfl, rfl, trivial⟩, ⟨hm, by omega, hne, hw⟩⟩
            · rw [if_neg (fun h => h4 h.2)] at hw
              repeat (first | refine VC.seq ?_ | refine VC.block ?_ | refine VC.skip ?_)
              refine VC.region ?_
              refine VR.pure rfl rfl (p_moveI rfl) ?_
              refine VR.pure rfl rfl (p_add64 rfl rfl (by omega)) ?_
              refine VR.pure rfl rfl (p_assignI rfl) ?_
              refine VR.nil ?_
              repeat (first | refine VC.seq ?_ | refine VC.block ?_ | refine VC.skip ?_)
              refine VC.goto ?_
              exact ⟨(0 + 1, _), ⟨rfl, rfl, rfl, rfl, rfl, trivial⟩, ⟨hm, by omega, hne, hw⟩⟩
          · rw [if_neg (fun h => h3 h.1)] at hw
            repeat (first | refine VC.seq ?_ | refine VC.block ?_ | refine VC.skip ?_)
            refine VC.condF rfl rfl ?_
            repeat (first | refine VC.seq ?_ | refine VC.block ?_ | refine VC.skip ?_)
            refine VC.region ?_
            refine VR.pure rfl rfl (p_moveI rfl) ?_
            refine VR.pure rfl rfl (p_add64 rfl rfl (by omega)) ?_
            refine VR.pure rfl rfl (p_assignI rfl) ?_
            refine VR.nil ?_
            repeat (first | refine VC.seq ?_ | refine VC.block ?_ | refine VC.skip ?_)
            refine VC.goto ?_
            exact ⟨(0 + 1, _), ⟨rfl, rfl, rfl, rfl, rfl, trivial⟩, ⟨hm, by omega, hne, hw⟩⟩
      · have hd : xs.drop 0 = [] := List.drop_eq_nil_of_le (by omega)
        rw [hd] at hw
        unfold wayGo at hw
        repeat (first | refine VC.seq ?_ | refine VC.block ?_ | refine VC.skip ?_)
        refine VC.region ?_
        refine VR.pure rfl rfl (p_moveI rfl) ?_
        refine VR.pure rfl rfl (p_moveI rfl) ?_
        refine VR.pure rfl rfl (p_lt rfl rfl) ?_
        refine VR.nil ?_
        repeat (first | refine VC.seq ?_ | refine VC.block ?_ | refine VC.skip ?_)
        refine VC.condD rfl (fun h2 => ?_) (fun h2 => ?_)
        · repeat (first | refine VC.seq ?_ | refine VC.block ?_ | refine VC.skip ?_)
          refine VC.region ?_
          refine VR.pure rfl rfl (p_assignI rfl) ?_
          refine VR.pure rfl rfl (p_assignI rfl) ?_
          refine VR.nil ?_
          repeat (first | refine VC.seq ?_ | refine VC.block ?_ | refine VC.skip ?_)
          refine VC.ret ⟨_, ResOf.r2 (v := .int _ _) (u := .int _ _) rfl rfl rfl, ?_⟩
          refine ⟨?_, hm⟩
          rw [hw, if_pos h2]
        · repeat (first | refine VC.seq ?_ | refine VC.block ?_ | refine VC.skip ?_)
          refine VC.region ?_
          refine VR.pure rfl rfl (p_moveI rfl) ?_
          refine VR.pure rfl rfl (p_assignI rfl) ?_
          refine VR.pure rfl rfl (p_assignI rfl) ?_
          refine VR.nil ?_
          repeat (first | refine VC.seq ?_ | refine VC.block ?_ | refine VC.skip ?_)
          refine VC.ret ⟨_, ResOf.r2 (v := .int _ _) (u := .int _ _) rfl rfl rfl, ?_⟩
          refine ⟨?_, hm⟩
          rw [hw, if_neg h2]
  · rintro ⟨k, to⟩ A' w ⟨hm, hk, hne, hw⟩
    simp only at hk hw
    repeat (first | refine VC.seq ?_ | refine VC.block ?_ | refine VC.skip ?_)
    refine VC.region ?_
    refine VR.pure rfl rfl (p_moveI rfl) ?_
    refine VR.pure rfl rfl (p_moveL rfl) ?_
    refine VR.pure rfl rfl (p_len Try.underlying23 rfl) ?_
    refine VR.pure rfl rfl (p_lt rfl rfl) ?_
    refine VR.nil ?_
    repeat (first | refine VC.seq ?_ | refine VC.block ?_ | refine VC.skip ?_)
    refine VC.condD rfl (fun h => ?_) (fun h => ?_)
    · have hk' : k < n := by omega
      obtain ⟨b, off, blk, T, fr, rfl, hb, hc⟩ := hr.get (by omega)
      repeat (first | refine VC.seq ?_ | refine VC.block ?_ | refine VC.skip ?_)
      refine VC.region ?_
      refine VR.pure rfl rfl (p_moveL rfl) ?_
      refine VR.pure rfl rfl (p_moveI rfl) ?_
      refine VR.pure rfl rfl (p_idx1 Try.underlying23 Try.sizeOf22 rfl rfl hk') ?_
      refine VR.val rfl rfl (r_load Try.isAgg22 rfl (hm.fix _ _ hb) (int_at hc hr.len hk')) ?_
      refine VR.pure rfl rfl (p_assignI rfl) ?_
      refine VR.nil ?_
      have hd := drop_getD (xs := xs) (k := k) (by omega)
      rw [hd] at hw
      unfold wayGo at hw
      repeat (first | refine VC.seq ?_ | refine VC.block ?_ | refine VC.skip ?_)
      refine VC.region ?_
      refine VR.pure rfl rfl (p_moveI rfl) ?_
      refine VR.pure rfl rfl (p_moveI rfl) ?_
      refine VR.pure rfl rfl (p_eq rfl rfl) ?_
      refine VR.pure rfl rfl (p_assignB rfl) ?_
      refine VR.nil ?_
      repeat (first | refine VC.seq ?_ | refine VC.block ?_ | refine VC.skip ?_)
      refine VC.condD rfl (fun h2 => ?_) (fun h2 => ?_)
      · repeat (first | refine VC.seq ?_ | refine VC.block ?_ | refine VC.skip ?_)
        refine VC.region ?_
        refine VR.pure rfl rfl (p_moveI rfl) ?_
        refine VR.pure rfl rfl (p_assignI rfl) ?_
        refine VR.pure rfl rfl (p_assignI rfl) ?_
        refine VR.nil ?_
        repeat (first | refine VC.seq ?_ | refine VC.block ?_ | refine VC.skip ?_)
        refine VC.ret ⟨_, ResOf.r2 (v := .int _ _) (u := .int _ _) rfl rfl rfl, ?_⟩
        refine ⟨?_, hm⟩
        rw [hw, if_pos h2]
      · rw [if_neg h2] at hw
        repeat (first | refine VC.seq ?_ | refine VC.block ?_ | refine VC.skip ?_)
        refine VC.region ?_
        refine VR.pure rfl rfl (p_moveI rfl) ?_
        refine VR.pure rfl rfl (p_moveI rfl) ?_
        refine VR.pure rfl rfl (p_gt rfl rfl) ?_
        refine VR.pure rfl rfl (p_moveB rfl) ?_
        refine VR.splitD 33 rfl (fun h3 => ?_) (fun h3 => ?_)
        refine VR.pureG rfl rfl (p_moveI rfl) ?_
        refine VR.pureG rfl rfl (p_moveI rfl) ?_
        refine VR.pureG rfl rfl (p_lt rfl rfl) ?_
        refine VR.pure rfl rfl (p_pickT rfl rfl) ?_
        refine VR.pure rfl rfl (p_assignB rfl) ?_
        refine VR.nil ?_
        rotate_left 1
        refine VR.pass rfl rfl ?_
        refine VR.pass rfl rfl ?_
        refine VR.pass rfl rfl ?_
        refine VR.pure rfl rfl (p_pickF rfl rfl) ?_
        refine VR.pure rfl rfl (p_assignB rfl) ?_
        refine VR.nil ?_
        rotate_left 1
        · repeat (first | refine VC.seq ?_ | refine VC.block ?_ | refine VC.skip ?_)
          refine VC.condD rfl (fun h4 => ?_) (fun h4 => ?_)
          · rw [if_pos ⟨h3, h4⟩] at hw
            repeat (first | refine VC.seq ?_ | refine VC.block ?_ | refine VC.skip ?_)
            refine VC.region ?_
            refine VR.pure rfl rfl (p_moveI rfl) ?_
            refine VR.pure rfl rfl (p_assignI rfl) ?_
            refine VR.nil ?_
            repeat (first | refine VC.seq ?_ | refine VC.block ?_ | refine VC.skip ?_)
            refine VC.region ?_
            refine VR.pure rfl rfl (p_moveI rfl) ?_
            refine VR.pure rfl rfl (p_add64 rfl rfl (by omega)) ?_
            refine VR.pure rfl rfl (p_assignI rfl) ?_
            refine VR.nil ?_
            repeat (first | refine VC.seq ?_ | refine VC.block ?_ | refine VC.skip ?_)
            refine VC.goto ?_
            exact ⟨(k + 1, _), ⟨rfl, rfl, rfl, rfl, rfl, trivial⟩, ⟨hm, by omega, hne, hw⟩, by simp only; omega⟩
          · rw [if_neg (fun h => h4 h.2)] at hw
            repeat (first | refine VC.seq ?_ | refine VC.block ?_ | refine VC.skip ?_)
            refine VC.region ?_
            refine VR.pure rfl rfl (p_moveI rfl) ?_
            refine VR.pure rfl rfl (p_add64 rfl rfl (by omega)) ?_
            refine VR.pure rfl rfl (p_assignI rfl) ?_
            refine VR.nil ?_
            repeat (first | refine VC.seq ?_ | refine VC.block ?_ | refine VC.skip ?_)
            refine VC.goto ?_
            exact ⟨(k + 1, _), ⟨rfl, rfl, rfl, rfl, rfl, trivial⟩, ⟨hm, by omega, hne, hw⟩, by simp only; omega⟩
        · rw [if_neg (fun h => h3 h.1)] at hw
          repeat (first | refine VC.seq ?_ | refine VC.block ?_ | refine VC.skip ?_)
          refine VC.condF rfl rfl ?_
          repeat (first | refine VC.seq ?_ | refine VC.block ?_ | refine VC.skip ?_)
          refine VC.region ?_
          refine VR.pure rfl rfl (p_moveI rfl) ?_
          refine VR.pure rfl rfl (p_add64 rfl rfl (by omega)) ?_
          refine VR.pure rfl rfl (p_assignI rfl) ?_
          refine VR.nil ?_
          repeat (first | refine VC.seq ?_ | refine VC.block ?_ | refine VC.skip ?_)
          refine VC.goto ?_
          exact ⟨(k + 1, _), ⟨rfl, rfl, rfl, rfl, rfl, trivial⟩, ⟨hm, by omega, hne, hw⟩, by simp only; omega⟩
    · have hd : xs.drop k = [] := List.drop_eq_nil_of_le (by omega)
      rw [hd] at hw
      unfold wayGo at hw
      repeat (first | refine VC.seq ?_ | refine VC.block ?_ | refine VC.skip ?_)
      refine VC.region ?_
      refine VR.pure rfl rfl (p_moveI rfl) ?_
      refine VR.pure rfl rfl (p_moveI rfl) ?_
      refine VR.pure rfl rfl (p_lt rfl rfl) ?_
      refine VR.nil ?_
      repeat (first | refine VC.seq ?_ | refine VC.block ?_ | refine VC.skip ?_)
      refine VC.condD rfl (fun h2 => ?_) (fun h2 => ?_)
      · repeat (first | refine VC.seq ?_ | refine VC.block ?_ | refine VC.skip ?_)
        refine VC.region ?_
        refine VR.pure rfl rfl (p_assignI rfl) ?_
        refine VR.pure rfl rfl (p_assignI rfl) ?_
        refine VR.nil ?_
        repeat (first | refine VC.seq ?_ | refine VC.block ?_ | refine VC.skip ?_)
        refine VC.ret ⟨_, ResOf.r2 (v := .int _ _) (u := .int _ _) rfl rfl rfl, ?_⟩
        refine ⟨?_, hm⟩
        rw [hw, if_pos h2]
      · repeat (first | refine VC.seq ?_ | refine VC.block ?_ | refine VC.skip ?_)
        refine VC.region ?_
        refine VR.pure rfl rfl (p_moveI rfl) ?_
        refine VR.pure rfl rfl (p_assignI rfl) ?_
        refine VR.pure rfl rfl (p_assignI rfl) ?_
        refine VR.nil ?_
        repeat (first | refine VC.seq ?_ | refine VC.block ?_ | refine VC.skip ?_)
        refine VC.ret ⟨_, ResOf.r2 (v := .int _ _) (u := .int _ _) rfl rfl rfl, ?_⟩
        refine ⟨?_, hm⟩
        rw [hw, if_neg h2]

/-! ### The document's answer -/
/-- The greatest of base and of those of l that are not below base, and below last. -/
def refGo (base last : Int) : Int → List Int → Int
  | to, [] => to
  | to, z :: r => refGo base last (if base ≤ z ∧ z < last then max to z else to) r
def refWay (base : Int) (l : List Int) (last : Int) : Int × Int :=
  if last = base ∨ last ∈ l then (7, last) else if last < base then (6, 0) else (5, refGo base last base l)

theorem refGo_nil (base last to : Int) : refGo base last to [] = to := rfl
theorem refGo_cons (base last to z : Int) (r : List Int) : refGo base last to (z :: r) = refGo base last (if base ≤ z ∧ z < last then max to z else to) r := rfl
theorem refGo_eq (base last : Int) : ∀ (l : List Int) (to : Int), base ≤ to → last ∉ l → wayGo base last to l = if last < base then (6, 0) else (5, refGo base last to l)
  | [], to, _, _ => rfl
  | z :: r, to, h, hl => by
    have hz : z ≠ last := fun e => hl (e ▸ List.mem_cons_self)
    have hr : last ∉ r := fun e => hl (List.mem_cons_of_mem _ e)
    unfold wayGo refGo
    rw [if_neg hz]
    by_cases h1 : to < z ∧ z < last
    · have e : (if base ≤ z ∧ z < last then max to z else to) = z := by
        rw [if_pos (show base ≤ z ∧ z < last from ⟨by omega, h1.2⟩), Int.max_eq_right (by omega)]
      rw [if_pos h1, e, refGo_eq base last r z (by omega) hr]
    · have e : (if base ≤ z ∧ z < last then max to z else to) = to := by
        by_cases h2 : base ≤ z ∧ z < last
        · rw [if_pos h2, Int.max_eq_left (by omega)]
        · rw [if_neg h2]
      rw [if_neg h1, e, refGo_eq base last r to h hr]
theorem wayGo_mem (base last : Int) : ∀ (l : List Int) (to : Int), last ∈ l → wayGo base last to l = (7, last)
  | z :: r, to, h => by
    unfold wayGo
    by_cases e : z = last
    · rw [if_pos e]
    · rw [if_neg e]
      rcases List.mem_cons.1 h with h' | h'
      · exact absurd h'.symm e
      · exact wayGo_mem base last r _ h'
theorem way_eq (base : Int) (l : List Int) (last : Int) : way base l last = refWay base l last := by
  unfold way refWay
  by_cases h : last = base
  · rw [if_pos h, if_pos (.inl h)]
  · rw [if_neg h]
    by_cases h2 : last ∈ l
    · rw [if_pos (.inr h2), wayGo_mem base last l base h2]
    · rw [if_neg (fun e => e.elim h h2), refGo_eq base last l base (Int.le_refl _) h2]

set_option maxHeartbeats 1000000 in
theorem ref_way_c {F : Env} {w : World} {Ls : List Blks} {A : Option Addr} {n c : Nat} {xs : List Int} {base last : Int} (hm : Mem F w Ls) (hn : n ≤ maxLen) (hr : Row F.heap A n (xs.map (Value.int .i64))) :
    Calls Try.prog 10 #[.int .i64 base, .slice A n c, .int .i64 last] w
      (Ret fun v w' => v = .tuple #[.int .u8 (refWay base xs last).1, .int .i64 (refWay base xs last).2] ∧ Mem F w' Ls) := by
  have hl : xs.length = n := by have := hr.len; rwa [List.length_map] at this
  have hn' := hn
  unfold maxLen at hn
  refine Calls.of_vc Try.func10 rfl Try.ntmps10 rfl ?_
  repeat (first | refine VC.seq ?_ | refine VC.block ?_ | refine VC.skip ?_)
  refine VC.region ?_
  refine VR.pure rfl rfl (p_assignI rfl) ?_
  refine VR.pure rfl rfl (p_assignI rfl) ?_
  refine VR.nil ?_
  by_cases hq : last = base ∨ last ∈ xs
  · have hw : refWay base xs last = (7, last) := by unfold refWay; rw [if_pos hq]
    by_cases h1 : last = base
    · repeat (first | refine VC.seq ?_ | refine VC.block ?_ | refine VC.skip ?_)
      refine VC.region ?_
      refine VR.pure rfl rfl (p_moveI rfl) ?_
      refine VR.pure rfl rfl (p_moveI rfl) ?_
      refine VR.pure rfl rfl (p_eq rfl rfl) ?_
      refine VR.pure rfl rfl (p_moveB rfl) ?_
      refine VR.knownT 13 rfl (decide_eq_true h1) ?_
      refine VR.pass rfl rfl ?_
      refine VR.pass rfl rfl ?_
      refine VR.pass rfl rfl ?_
      refine VR.pure rfl rfl (p_pickT rfl rfl) ?_
      refine VR.nil ?_
      repeat (first | refine VC.seq ?_ | refine VC.block ?_ | refine VC.skip ?_)
      refine VC.condT rfl rfl ?_
      repeat (first | refine VC.seq ?_ | refine VC.block ?_ | refine VC.skip ?_)
      refine VC.region ?_
      refine VR.pure rfl rfl (p_moveI rfl) ?_
      refine VR.pure rfl rfl (p_assignI rfl) ?_
      refine VR.pure rfl rfl (p_assignI rfl) ?_
      refine VR.nil ?_
      repeat (first | refine VC.seq ?_ | refine VC.block ?_ | refine VC.skip ?_)
      refine VC.ret ⟨_, ResOf.r2 (v := .int _ _) (u := .int _ _) rfl rfl rfl, ?_⟩
      exact ⟨by rw [hw], hm⟩
    · repeat (first | refine VC.seq ?_ | refine VC.block ?_ | refine VC.skip ?_)
      refine VC.region ?_
      refine VR.pure rfl rfl (p_moveI rfl) ?_
      refine VR.pure rfl rfl (p_moveI rfl) ?_
      refine VR.pure rfl rfl (p_eq rfl rfl) ?_
      refine VR.pure rfl rfl (p_moveB rfl) ?_
      refine VR.knownF 13 rfl (decide_eq_false h1) ?_
      refine VR.pureG rfl rfl (p_moveL rfl) ?_
      refine VR.pureG rfl rfl (p_moveI rfl) ?_
      refine VR.callG rfl rfl (r_call2 Try.call19 rfl rfl) (has_c hm hn' hr) ?_
      rintro _ w ⟨rfl, hm⟩
      refine VR.pure rfl rfl (p_pickF rfl rfl) ?_
      refine VR.nil ?_
      repeat (first | refine VC.seq ?_ | refine VC.block ?_ | refine VC.skip ?_)
      refine VC.condT rfl (decide_eq_true (hq.resolve_left h1)) ?_
      repeat (first | refine VC.seq ?_ | refine VC.block ?_ | refine VC.skip ?_)
      refine VC.region ?_
      refine VR.pure rfl rfl (p_moveI rfl) ?_
      refine VR.pure rfl rfl (p_assignI rfl) ?_
      refine VR.pure rfl rfl (p_assignI rfl) ?_
      refine VR.nil ?_
      repeat (first | refine VC.seq ?_ | refine VC.block ?_ | refine VC.skip ?_)
      refine VC.ret ⟨_, ResOf.r2 (v := .int _ _) (u := .int _ _) rfl rfl rfl, ?_⟩
      exact ⟨by rw [hw], hm⟩
  · have h1 : ¬ last = base := fun e => hq (.inl e)
    have h2 : ¬ last ∈ xs := fun e => hq (.inr e)
    repeat (first | refine VC.seq ?_ | refine VC.block ?_ | refine VC.skip ?_)
    refine VC.region ?_
    refine VR.pure rfl rfl (p_moveI rfl) ?_
    refine VR.pure rfl rfl (p_moveI rfl) ?_
    refine VR.pure rfl rfl (p_eq rfl rfl) ?_
    refine VR.pure rfl rfl (p_moveB rfl) ?_
    refine VR.knownF 13 rfl (decide_eq_false h1) ?_
    refine VR.pureG rfl rfl (p_moveL rfl) ?_
    refine VR.pureG rfl rfl (p_moveI rfl) ?_
    refine VR.callG rfl rfl (r_call2 Try.call19 rfl rfl) (has_c hm hn' hr) ?_
    rintro _ w ⟨rfl, hm⟩
    refine VR.pure rfl rfl (p_pickF rfl rfl) ?_
    refine VR.nil ?_
    repeat (first | refine VC.seq ?_ | refine VC.block ?_ | refine VC.skip ?_)
    refine VC.condF rfl (decide_eq_false h2) ?_
    repeat (first | refine VC.seq ?_ | refine VC.block ?_ | refine VC.skip ?_)
    refine VC.region ?_
    refine VR.pure rfl rfl (p_moveI rfl) ?_
    refine VR.pure rfl rfl (p_moveI rfl) ?_
    refine VR.pure rfl rfl (p_lt rfl rfl) ?_
    refine VR.nil ?_
    repeat (first | refine VC.seq ?_ | refine VC.block ?_ | refine VC.skip ?_)
    refine VC.condD rfl (fun h3 => ?_) (fun h3 => ?_)
    · repeat (first | refine VC.seq ?_ | refine VC.block ?_ | refine VC.skip ?_)
      refine VC.region ?_
      refine VR.pure rfl rfl (p_assignI rfl) ?_
      refine VR.pure rfl rfl (p_assignI rfl) ?_
      refine VR.nil ?_
      repeat (first | refine VC.seq ?_ | refine VC.block ?_ | refine VC.skip ?_)
      refine VC.ret ⟨_, ResOf.r2 (v := .int _ _) (u := .int _ _) rfl rfl rfl, ?_⟩
      exact ⟨by unfold refWay; rw [if_neg hq, if_pos h3], hm⟩
    · repeat (first | refine VC.seq ?_ | refine VC.block ?_ | refine VC.skip ?_)
      refine VC.region ?_
      refine VR.pure rfl rfl (p_moveI rfl) ?_
      refine VR.pure rfl rfl (p_assignI rfl) ?_
      refine VR.nil ?_
      repeat (first | refine VC.seq ?_ | refine VC.block ?_ | refine VC.skip ?_)
      refine VC.region ?_
      refine VR.pure rfl rfl (p_assignI rfl) ?_
      refine VR.nil ?_
      repeat (first | refine VC.seq ?_ | refine VC.block ?_ | refine VC.skip ?_)
      refine VC.loop (σ := Nat × Int) (fun s => [(0, .int .i64 base), (1, .slice A n c), (2, .int .i64 last), (8, .int .i64 s.2), (9, .int .i64 s.1)])
        (fun s w => Mem F w Ls ∧ s.1 ≤ n ∧ refGo base last base xs = refGo base last s.2 (xs.drop s.1)) (fun s => n - s.1) (0, base) ⟨rfl, rfl, rfl, rfl, rfl, trivial⟩ ⟨hm, by omega, rfl⟩ ?_
      rintro ⟨k, to⟩ A' w ⟨hm, hk, hgo⟩
      dsimp only at hk hgo ⊢
      repeat (first | refine VC.seq ?_ | refine VC.block ?_ | refine VC.skip ?_)
      refine VC.region ?_
      refine VR.pure rfl rfl (p_moveI rfl) ?_
      refine VR.pure rfl rfl (p_moveL rfl) ?_
      refine VR.pure rfl rfl (p_len Try.underlying23 rfl) ?_
      refine VR.pure rfl rfl (p_lt rfl rfl) ?_
      refine VR.nil ?_
      repeat (first | refine VC.seq ?_ | refine VC.block ?_ | refine VC.skip ?_)
      refine VC.condD rfl (fun h => ?_) (fun h => ?_)
      · have hk' : k < n := by omega
        obtain ⟨b, off, blk, T, fr, rfl, hb, hc⟩ := hr.get (by omega)
        have hd := drop_getD (xs := xs) (k := k) (by omega)
        rw [hd, refGo_cons] at hgo
        have e1 := int_at hc hr.len hk'
        by_cases h4 : base ≤ xs.getD k 0
        · by_cases h5 : xs.getD k 0 < last
          · rw [if_pos ⟨h4, h5⟩] at hgo
            repeat (first | refine VC.seq ?_ | refine VC.block ?_ | refine VC.skip ?_)
            refine VC.region ?_
            refine VR.pure rfl rfl (p_moveL rfl) ?_
            refine VR.pure rfl rfl (p_moveI rfl) ?_
            refine VR.pure rfl rfl (p_idx1 Try.underlying23 Try.sizeOf22 rfl rfl hk') ?_
            refine VR.val rfl rfl (r_load Try.isAgg22 rfl (hm.fix _ _ hb) e1) ?_
            refine VR.pure rfl rfl (p_moveI rfl) ?_
            refine VR.pure rfl rfl (p_ge rfl rfl) ?_
            refine VR.pure rfl rfl (p_moveB rfl) ?_
            refine VR.knownT 35 rfl (decide_eq_true h4) ?_
            refine VR.pureG rfl rfl (p_moveL rfl) ?_
            refine VR.pureG rfl rfl (p_moveI rfl) ?_
            refine VR.pureG rfl rfl (p_idx1 Try.underlying23 Try.sizeOf22 rfl rfl hk') ?_
            refine VR.valG rfl rfl (r_load Try.isAgg22 rfl (hm.fix _ _ hb) e1) ?_
            refine VR.pureG rfl rfl (p_moveI rfl) ?_
            refine VR.pureG rfl rfl (p_lt rfl rfl) ?_
            refine VR.pure rfl rfl (p_pickT rfl rfl) ?_
            refine VR.nil ?_
            repeat (first | refine VC.seq ?_ | refine VC.block ?_ | refine VC.skip ?_)
            refine VC.condT rfl (decide_eq_true h5) ?_
            repeat (first | refine VC.seq ?_ | refine VC.block ?_ | refine VC.skip ?_)
            refine VC.region ?_
            refine VR.pure rfl rfl (p_moveI rfl) ?_
            refine VR.pure rfl rfl (p_moveL rfl) ?_
            refine VR.pure rfl rfl (p_moveI rfl) ?_
            refine VR.pure rfl rfl (p_idx1 Try.underlying23 Try.sizeOf22 rfl rfl hk') ?_
            refine VR.val rfl rfl (r_load Try.isAgg22 rfl (hm.fix _ _ hb) e1) ?_
            refine VR.pure rfl rfl (p_max rfl rfl) ?_
            refine VR.pure rfl rfl (p_assignI rfl) ?_
            refine VR.nil ?_
            repeat (first | refine VC.seq ?_ | refine VC.block ?_ | refine VC.skip ?_)
            refine VC.region ?_
            refine VR.pure rfl rfl (p_moveI rfl) ?_
            refine VR.pure rfl rfl (p_add64 rfl rfl (by omega)) ?_
            refine VR.pure rfl rfl (p_assignI rfl) ?_
            refine VR.nil ?_
            exact ⟨(k + 1, _), ⟨rfl, rfl, rfl, rfl, rfl, trivial⟩, ⟨hm, by omega, hgo⟩, by dsimp only; omega⟩
          · rw [if_neg (fun e => h5 e.2)] at hgo
            repeat (first | refine VC.seq ?_ | refine VC.block ?_ | refine VC.skip ?_)
            refine VC.region ?_
            refine VR.pure rfl rfl (p_moveL rfl) ?_
            refine VR.pure rfl rfl (p_moveI rfl) ?_
            refine VR.pure rfl rfl (p_idx1 Try.underlying23 Try.sizeOf22 rfl rfl hk') ?_
            refine VR.val rfl rfl (r_load Try.isAgg22 rfl (hm.fix _ _ hb) e1) ?_
            refine VR.pure rfl rfl (p_moveI rfl) ?_
            refine VR.pure rfl rfl (p_ge rfl rfl) ?_
            refine VR.pure rfl rfl (p_moveB rfl) ?_
            refine VR.knownT 35 rfl (decide_eq_true h4) ?_
            refine VR.pureG rfl rfl (p_moveL rfl) ?_
            refine VR.pureG rfl rfl (p_moveI rfl) ?_
            refine VR.pureG rfl rfl (p_idx1 Try.underlying23 Try.sizeOf22 rfl rfl hk') ?_
            refine VR.valG rfl rfl (r_load Try.isAgg22 rfl (hm.fix _ _ hb) e1) ?_
            refine VR.pureG rfl rfl (p_moveI rfl) ?_
            refine VR.pureG rfl rfl (p_lt rfl rfl) ?_
            refine VR.pure rfl rfl (p_pickT rfl rfl) ?_
            refine VR.nil ?_
            repeat (first | refine VC.seq ?_ | refine VC.block ?_ | refine VC.skip ?_)
            refine VC.condF rfl (decide_eq_false h5) ?_
            repeat (first | refine VC.seq ?_ | refine VC.block ?_ | refine VC.skip ?_)
            refine VC.region ?_
            refine VR.pure rfl rfl (p_moveI rfl) ?_
            refine VR.pure rfl rfl (p_add64 rfl rfl (by omega)) ?_
            refine VR.pure rfl rfl (p_assignI rfl) ?_
            refine VR.nil ?_
            exact ⟨(k + 1, _), ⟨rfl, rfl, rfl, rfl, rfl, trivial⟩, ⟨hm, by omega, hgo⟩, by dsimp only; omega⟩
        · rw [if_neg (fun e => h4 e.1)] at hgo
          repeat (first | refine VC.seq ?_ | refine VC.block ?_ | refine VC.skip ?_)
          refine VC.region ?_
          refine VR.pure rfl rfl (p_moveL rfl) ?_
          refine VR.pure rfl rfl (p_moveI rfl) ?_
          refine VR.pure rfl rfl (p_idx1 Try.underlying23 Try.sizeOf22 rfl rfl hk') ?_
          refine VR.val rfl rfl (r_load Try.isAgg22 rfl (hm.fix _ _ hb) e1) ?_
          refine VR.pure rfl rfl (p_moveI rfl) ?_
          refine VR.pure rfl rfl (p_ge rfl rfl) ?_
          refine VR.pure rfl rfl (p_moveB rfl) ?_
          refine VR.knownF 35 rfl (decide_eq_false h4) ?_
          refine VR.pass rfl rfl ?_
          refine VR.pass rfl rfl ?_
          refine VR.pass rfl rfl ?_
          refine VR.pass rfl rfl ?_
          refine VR.pass rfl rfl ?_
          refine VR.pass rfl rfl ?_
          refine VR.pure rfl rfl (p_pickF rfl rfl) ?_
          refine VR.nil ?_
          repeat (first | refine VC.seq ?_ | refine VC.block ?_ | refine VC.skip ?_)
          refine VC.condF rfl rfl ?_
          repeat (first | refine VC.seq ?_ | refine VC.block ?_ | refine VC.skip ?_)
          refine VC.region ?_
          refine VR.pure rfl rfl (p_moveI rfl) ?_
          refine VR.pure rfl rfl (p_add64 rfl rfl (by omega)) ?_
          refine VR.pure rfl rfl (p_assignI rfl) ?_
          refine VR.nil ?_
          exact ⟨(k + 1, _), ⟨rfl, rfl, rfl, rfl, rfl, trivial⟩, ⟨hm, by omega, hgo⟩, by dsimp only; omega⟩
      · have hd : xs.drop k = [] := List.drop_eq_nil_of_le (by omega)
        rw [hd, refGo_nil] at hgo
        repeat (first | refine VC.seq ?_ | refine VC.block ?_ | refine VC.skip ?_)
        refine VC.exit ?_
        repeat (first | refine VC.seq ?_ | refine VC.block ?_ | refine VC.skip ?_)
        refine VC.region ?_
        refine VR.pure rfl rfl (p_moveI rfl) ?_
        refine VR.pure rfl rfl (p_assignI rfl) ?_
        refine VR.pure rfl rfl (p_assignI rfl) ?_
        refine VR.nil ?_
        repeat (first | refine VC.seq ?_ | refine VC.block ?_ | refine VC.skip ?_)
        refine VC.ret ⟨_, ResOf.r2 (v := .int _ _) (u := .int _ _) rfl rfl rfl, ?_⟩
        exact ⟨by unfold refWay; rw [if_neg hq, if_neg h3, hgo], hm⟩

end Go.Bd
