/- Contracts of layer 8: marks; bytes lent, kept, written over, turned. Conditions: as each states. -/
import Derived.Test.Ytjohjlhjeommiaa08n
namespace Go.Bd
open Go.Proofs
set_option linter.unusedVariables false
set_option maxRecDepth 20000

theorem mark_c {w : World} {k i : Int} (h : 0 ≤ k ∧ k ≤ 1099511627776 ∧ 0 ≤ i ∧ i ≤ 1125899906842624) :
    Calls Try.prog 71 #[.int .i64 k, .int .i64 i] w (Ret fun v w' => v = .int .i64 (1000003 * (k + 7) + i) ∧ w' = w) := by
  refine Calls.of_vc Try.func71 rfl Try.ntmps71 rfl ?_
  repeat (first | refine VC.seq ?_ | refine VC.block ?_ | refine VC.skip ?_)
  refine VC.region ?_
  refine VR.pure rfl rfl (p_assignI rfl) ?_
  refine VR.nil ?_
  repeat (first | refine VC.seq ?_ | refine VC.block ?_ | refine VC.skip ?_)
  refine VC.region ?_
  refine VR.pure rfl rfl (p_moveI rfl) ?_
  refine VR.pure rfl rfl (p_add64 rfl rfl (by omega)) ?_
  refine VR.pure rfl rfl (p_mul64 rfl rfl (by omega)) ?_
  refine VR.pure rfl rfl (p_moveI rfl) ?_
  refine VR.pure rfl rfl (p_add64 rfl rfl (by omega)) ?_
  refine VR.pure rfl rfl (p_assignI rfl) ?_
  refine VR.nil ?_
  repeat (first | refine VC.seq ?_ | refine VC.block ?_ | refine VC.skip ?_)
  refine VC.ret ⟨_, ResOf.r1 (v := .int _ _) rfl rfl, ?_⟩
  exact ⟨rfl, rfl⟩
/-- What a mark in a row of bytes is. -/
def markB (k i : Int) : Int := IntKind.u8.wrap ((IntKind.u64.wrap (IntKind.u64.wrap (1000003 * (k + 7) + i) * 11400714819323198485)).fdiv (2 ^ 56))
theorem markByte_c {w : World} {k i : Int} (h : 0 ≤ k ∧ k ≤ 1099511627776 ∧ 0 ≤ i ∧ i ≤ 1125899906842624) :
    Calls Try.prog 52 #[.int .i64 k, .int .i64 i] w (Ret fun v w' => v = .int .u8 (markB k i) ∧ w' = w) := by
  refine Calls.of_vc Try.func52 rfl Try.ntmps52 rfl ?_
  repeat (first | refine VC.seq ?_ | refine VC.block ?_ | refine VC.skip ?_)
  refine VC.region ?_
  refine VR.pure rfl rfl (p_assignI rfl) ?_
  refine VR.nil ?_
  repeat (first | refine VC.seq ?_ | refine VC.block ?_ | refine VC.skip ?_)
  refine VC.region ?_
  refine VR.pure rfl rfl (p_moveI rfl) ?_
  refine VR.pure rfl rfl (p_moveI rfl) ?_
  refine VR.call rfl rfl (r_call2 Try.call71 rfl rfl) (mark_c h) ?_
  rintro _ _ ⟨rfl, rfl⟩
  refine VR.pure rfl rfl (p_conv Try.underlying3 Try.underlying119 rfl) ?_
  refine VR.pure rfl rfl (p_mul rfl rfl) ?_
  refine VR.pure rfl rfl (p_shr rfl rfl (by decide)) ?_
  refine VR.pure rfl rfl (p_conv Try.underlying119 Try.underlying5 rfl) ?_
  refine VR.pure rfl rfl (p_assignI rfl) ?_
  refine VR.nil ?_
  repeat (first | refine VC.seq ?_ | refine VC.block ?_ | refine VC.skip ?_)
  refine VC.ret ⟨_, ResOf.r1 (v := .int _ _) rfl rfl, ?_⟩
  exact ⟨rfl, rfl⟩
def marksB (n : Nat) : List Int := (List.range n).map fun i : Nat => markB 1 (i : Int)
theorem marksB_len (n : Nat) : (marksB n).length = n := by simp [marksB]
theorem marksB_succ (n : Nat) : marksB (n + 1) = marksB n ++ [markB 1 (n : Int)] := by simp [marksB, List.range_succ]
theorem marksB_at {n i : Nat} (h : i < n) : (marksB n)[i]? = some (markB 1 (i : Int)) := by simp [marksB, h]

theorem lentB_c {F : Env} {w : World} {Ls : List Blks} {A : Option Addr} {n c : Nat} {l : List Int} (hm : Mem F w Ls) (hn : n ≤ 140737488355328) (hr : BRow F.heap A n l) :
    Calls Try.prog 26 #[.slice A n c] w (Ret fun v w' => ∃ A' c' L, v = .slice A' n c' ∧ OwnS 5 1 A' (n + 12) c' (bytes (l ++ marksB 12)) L ∧ Mem F w' (L :: Ls)) := by
  have hr1 : Row F.heap A (n * 1) (bytes l) := by rw [Nat.mul_one]; exact hr
  refine Calls.of_vc Try.func26 rfl Try.ntmps26 rfl ?_
  repeat (first | refine VC.seq ?_ | refine VC.block ?_ | refine VC.skip ?_)
  refine VC.region ?_
  refine VR.pure rfl rfl (p_assignL rfl) ?_
  refine VR.nil ?_
  repeat (first | refine VC.seq ?_ | refine VC.block ?_ | refine VC.skip ?_)
  refine VC.region ?_
  refine VR.pure rfl rfl (p_moveL rfl) ?_
  refine VR.pure rfl rfl (p_len Try.underlying22 rfl) ?_
  refine VR.pure rfl rfl (p_add64E (r := ((n + 12 : Nat) : Int)) rfl rfl (by omega) (by omega)) ?_
  refine VR.new hm rfl rfl (n_makeSlice (s := 1) (bytes := 1) Try.underlying22 inf5 rfl rfl rfl rfl rfl (by omega) (by omega)) ?_
  intro g3 w hm
  refine VR.pure rfl rfl (p_assignL rfl) ?_
  refine VR.nil ?_
  repeat (first | refine VC.seq ?_ | refine VC.block ?_ | refine VC.skip ?_)
  refine VC.region ?_
  refine VR.pure rfl rfl (p_moveL rfl) ?_
  refine VR.pure rfl rfl (p_moveL rfl) ?_
  refine VR.appendI (s := 1) Try.underlying22 inf5 rfl rfl rfl rfl rfl rfl hm (OwnS.made (c := (n + 12 : Nat)) (by unfold maxLen; omega) (by rw [size_madeCells]; rfl)) (hr1.mono hm.fix) (bytes_one l) (Nat.zero_add n) (by omega) ?_
  intro cur2 w ho2 hm
  refine VR.pure rfl rfl (p_assignL rfl) ?_
  refine VR.nil ?_
  repeat (first | refine VC.seq ?_ | refine VC.block ?_ | refine VC.skip ?_)
  refine VC.region ?_
  refine VR.pure rfl rfl (p_assignI rfl) ?_
  refine VR.nil ?_
  repeat (first | refine VC.seq ?_ | refine VC.block ?_ | refine VC.skip ?_)
  refine VC.loop (σ := Nat × Array Value) (fun s => [(0, .slice A n c), (3, .slice (some ⟨g3, 0, none⟩) (n + s.1) (n + 12)), (4, .int .i64 s.1)])
    (fun s w => s.1 ≤ 12 ∧ OwnS 5 1 (some ⟨g3, 0, none⟩) (n + s.1) (n + 12) (bytes (l ++ marksB s.1)) [(g3, .cells s.2 5 (0, 0))] ∧ Mem F w ([(g3, .cells s.2 5 (0, 0))] :: Ls)) (fun s => 12 - s.1) (0, cur2) ⟨rfl, rfl, rfl, trivial⟩ ⟨by omega, by
      have h2 : OwnS 5 1 (some ⟨g3, 0, none⟩) n (n + 12) ([] ++ bytes l) [(g3, .cells cur2 5 (0, 0))] := ho2
      simpa [marksB] using h2, hm⟩ ?_
  rintro ⟨j, cur3⟩ A' w ⟨hj, ho, hm⟩
  dsimp only at hj ho hm ⊢
  repeat (first | refine VC.seq ?_ | refine VC.block ?_ | refine VC.skip ?_)
  refine VC.region ?_
  refine VR.pure rfl rfl (p_moveI rfl) ?_
  refine VR.pure rfl rfl (p_lt rfl rfl) ?_
  refine VR.nil ?_
  repeat (first | refine VC.seq ?_ | refine VC.block ?_ | refine VC.skip ?_)
  refine VC.condD rfl (fun h => ?_) (fun h => ?_)
  · repeat (first | refine VC.seq ?_ | refine VC.block ?_ | refine VC.skip ?_)
    repeat (first | refine VC.seq ?_ | refine VC.block ?_ | refine VC.skip ?_)
    refine VC.region ?_
    refine VR.pure rfl rfl (p_moveL rfl) ?_
    refine VR.pure rfl rfl (p_moveI rfl) ?_
    refine VR.call rfl rfl (r_call2 Try.call52 rfl rfl) (markByte_c (by omega)) ?_
    rintro _ _ ⟨rfl, rfl⟩
    refine VR.new hm rfl rfl (n_buildSlice1 (vs := [.int _ _]) Try.underlying22 inf5 rfl rfl rfl rfl rfl rfl rfl) ?_
    intro g6 w hm
    replace hm := hm.swap
    refine VR.appendI (s := 1) Try.underlying22 inf5 rfl rfl rfl rfl rfl rfl hm ho (Row.lit (cs := [.int .u8 (markB 1 (j : Int))]) (hm.at_ 1 0 rfl)) (by simp [Value.oneCell']) rfl (by omega) ?_
    intro cur4 w ho4 hm
    refine VR.pure rfl rfl (p_assignL rfl) ?_
    refine VR.nil ?_
    repeat (first | refine VC.seq ?_ | refine VC.block ?_ | refine VC.skip ?_)
    refine VC.region ?_
    refine VR.pure rfl rfl (p_moveI rfl) ?_
    refine VR.pure rfl rfl (p_add64 rfl rfl (by omega)) ?_
    refine VR.pure rfl rfl (p_assignI rfl) ?_
    refine VR.nil ?_
    refine ⟨(j + 1, cur4), ⟨rfl, rfl, rfl, trivial⟩, ⟨by omega, ?_, hm.pop2⟩, by omega⟩
    rw [marksB_succ, ← List.append_assoc]
    have e : bytes (l ++ marksB j ++ [markB 1 (j : Int)]) = bytes (l ++ marksB j) ++ [.int .u8 (markB 1 (j : Int))] := by unfold bytes; rw [List.map_append]; rfl
    rw [e]
    exact ho4
  · repeat (first | refine VC.seq ?_ | refine VC.block ?_ | refine VC.skip ?_)
    refine VC.exit ?_
    obtain rfl : j = 12 := by omega
    repeat (first | refine VC.seq ?_ | refine VC.block ?_ | refine VC.skip ?_)
    refine VC.region ?_
    refine VR.pure rfl rfl (p_moveL rfl) ?_
    refine VR.pure rfl rfl (p_moveL rfl) ?_
    refine VR.pure rfl rfl (p_len Try.underlying22 rfl) ?_
    refine VR.pure rfl rfl (p_sliceHN Try.underlying22 Try.sizeOf5 rfl rfl (by omega)) ?_
    refine VR.pure rfl rfl (p_assignL rfl) ?_
    refine VR.nil ?_
    repeat (first | refine VC.seq ?_ | refine VC.block ?_ | refine VC.skip ?_)
    refine VC.ret ⟨_, ResOf.r1 (v := .slice _ _ _) rfl rfl, ?_⟩
    exact ⟨_, _, _, rfl, ho, hm⟩

theorem left_at {l m : List Int} {k : Nat} {z : Int} (h : (l ++ m)[k]? = some z) (hk : k < l.length) : l[k]? = some z := by rwa [List.getElem?_append_left hk] at h
theorem keptB_c {F : Env} {w : World} {Ls : List Blks} {A B : Option Addr} {n c d : Nat} {l : List Int} (hm : Mem F w Ls) (hn : n ≤ 140737488355328) (hc : n + 12 ≤ c) (hr : BRow F.heap A (n + 12) (l ++ marksB 12)) (hs : BRow F.heap B n l) :
    Calls Try.prog 27 #[.slice A n c, .slice B n d] w (Ret fun v w' => v = .bool true ∧ Mem F w' Ls) := by
  have hl := hs.len
  refine Calls.of_vc Try.func27 rfl Try.ntmps27 rfl ?_
  repeat (first | refine VC.seq ?_ | refine VC.block ?_ | refine VC.skip ?_)
  refine VC.region ?_
  refine VR.pure rfl rfl (p_assignB rfl) ?_
  refine VR.nil ?_
  repeat (first | refine VC.seq ?_ | refine VC.block ?_ | refine VC.skip ?_)
  refine VC.region ?_
  refine VR.pure rfl rfl (p_moveL rfl) ?_
  refine VR.pure rfl rfl (p_len Try.underlying22 rfl) ?_
  refine VR.pure rfl rfl (p_moveL rfl) ?_
  refine VR.pure rfl rfl (p_len Try.underlying22 rfl) ?_
  refine VR.pure rfl rfl (p_ne rfl rfl) ?_
  refine VR.nil ?_
  repeat (first | refine VC.seq ?_ | refine VC.block ?_ | refine VC.skip ?_)
  refine VC.condF rfl (decide_eq_false (not_not_intro rfl)) ?_
  repeat (first | refine VC.seq ?_ | refine VC.block ?_ | refine VC.skip ?_)
  refine VC.region ?_
  refine VR.pure rfl rfl (p_moveL rfl) ?_
  refine VR.pure rfl rfl (p_moveL rfl) ?_
  refine VR.pure rfl rfl (p_len Try.underlying22 rfl) ?_
  refine VR.pure rfl rfl (p_add64E (r := ((n + 12 : Nat) : Int)) rfl rfl (by omega) (by omega)) ?_
  refine VR.pure rfl rfl (p_sliceHN (h := n + 12) Try.underlying22 Try.sizeOf5 rfl rfl (by omega)) ?_
  refine VR.pure rfl rfl (p_assignL rfl) ?_
  refine VR.nil ?_
  repeat (first | refine VC.seq ?_ | refine VC.block ?_ | refine VC.skip ?_)
  refine VC.region ?_
  refine VR.pure rfl rfl (p_assignI rfl) ?_
  refine VR.nil ?_
  repeat (first | refine VC.seq ?_ | refine VC.block ?_ | refine VC.skip ?_)
  refine VC.loop (σ := Nat) (fun k => [(0, .slice A n c), (1, .slice B n d), (5, .slice A (n + 12) c), (6, .int .i64 k)]) (fun k w => Mem F w Ls ∧ k ≤ n + 12) (fun k => n + 12 - k) 0 ⟨rfl, rfl, rfl, rfl, trivial⟩ ⟨hm, by omega⟩ ?_
  rintro k A' w ⟨hm, hk⟩
  repeat (first | refine VC.seq ?_ | refine VC.block ?_ | refine VC.skip ?_)
  refine VC.region ?_
  refine VR.pure rfl rfl (p_moveI rfl) ?_
  refine VR.pure rfl rfl (p_moveL rfl) ?_
  refine VR.pure rfl rfl (p_len Try.underlying22 rfl) ?_
  refine VR.pure rfl rfl (p_lt rfl rfl) ?_
  refine VR.nil ?_
  repeat (first | refine VC.seq ?_ | refine VC.block ?_ | refine VC.skip ?_)
  refine VC.condD rfl (fun h => ?_) (fun h => ?_)
  · have hk' : k < n + 12 := by omega
    obtain ⟨z, hz, _⟩ := get_of (xs := l ++ marksB 12) (k := k) (by rw [List.length_append, marksB_len]; omega)
    obtain ⟨b, off, blk, T, fr, rfl, hb, hcc⟩ := Row.get hr (by omega)
    have hz2 : ¬ k < n → z = markB 1 ((k : Int) - n) := fun h2 => by
      rw [List.getElem?_append_right (by omega), marksB_at (by omega)] at hz
      rw [← Option.some.inj hz]
      congr 1
      omega
    by_cases h4 : k < n
    · obtain ⟨b2, off2, blk2, T2, fr2, rfl, hb2, hc2⟩ := Row.get hs (by omega)
      repeat (first | refine VC.seq ?_ | refine VC.block ?_ | refine VC.skip ?_)
      refine VC.loud (Kept F []) [30] rfl (by kernel_rfl) (Kept.of0 hm.drew) ?_
      replace hm := hm.drew
      refine VL.pure rfl rfl rfl (p_moveI rfl) ?_
      refine VL.pure rfl rfl rfl (p_moveL rfl) ?_
      refine VL.pure rfl rfl rfl (p_len Try.underlying22 rfl) ?_
      refine VL.pure rfl rfl rfl (p_lt rfl rfl) ?_
      refine VL.pure rfl rfl rfl (p_moveB rfl) ?_
      refine VL.knownT 27 rfl (decide_eq_true (by omega)) ?_
      refine VL.pureG rfl rfl rfl (p_moveL rfl) ?_
      refine VL.pureG rfl rfl rfl (p_moveI rfl) ?_
      refine VL.pureG rfl rfl rfl (p_idx1 Try.underlying22 Try.sizeOf5 rfl rfl hk') ?_
      refine VL.readG rfl rfl rfl (fun w' hw' => r_load (v := .int _ _) Try.isAgg5 rfl (hw'.fix _ _ hb) ((hcc k hk').trans (byte_at hz))) ?_
      refine VL.pureG rfl rfl rfl (p_moveL rfl) ?_
      refine VL.pureG rfl rfl rfl (p_moveI rfl) ?_
      refine VL.pureG rfl rfl rfl (p_idx1 Try.underlying22 Try.sizeOf5 rfl rfl h4) ?_
      refine VL.readG rfl rfl rfl (fun w' hw' => r_load (v := .int _ _) Try.isAgg5 rfl (hw'.fix _ _ hb2) ((hc2 k h4).trans (byte_at (left_at hz (by omega))))) ?_
      refine VL.pureG rfl rfl rfl (p_eq rfl rfl) ?_
      refine VL.pureG rfl rfl rfl (p_notD rfl) ?_
      refine VL.pure rfl rfl rfl (p_pickT rfl rfl) ?_
      refine VL.pure rfl rfl rfl (p_moveB rfl) ?_
      refine VL.knownF 39 rfl (decide_eq_false (not_not_intro rfl)) ?_
      refine VL.pureG rfl rfl rfl (p_moveI rfl) ?_
      refine VL.pureG rfl rfl rfl (p_moveL rfl) ?_
      refine VL.pureG rfl rfl rfl (p_len Try.underlying22 rfl) ?_
      refine VL.pureG rfl rfl rfl (p_ge rfl rfl) ?_
      refine VL.pureG rfl rfl rfl (p_moveB rfl) ?_
      refine VL.knownF 44 rfl (decide_eq_false (by omega)) ?_
      refine VL.pass rfl rfl ?_
      refine VL.pass rfl rfl ?_
      refine VL.pass rfl rfl ?_
      refine VL.pass rfl rfl ?_
      refine VL.pass rfl rfl ?_
      refine VL.pass rfl rfl ?_
      refine VL.pass rfl rfl ?_
      refine VL.pass rfl rfl ?_
      refine VL.pass rfl rfl ?_
      refine VL.pass rfl rfl ?_
      refine VL.pass rfl rfl ?_
      refine VL.pureG rfl rfl rfl (p_pickF rfl rfl) ?_
      refine VL.pure rfl rfl rfl (p_pickF rfl rfl) ?_
      refine VL.nil ?_
      repeat (first | refine VC.seq ?_ | refine VC.block ?_ | refine VC.skip ?_)
      refine VC.condF rfl rfl ?_
      repeat (first | refine VC.seq ?_ | refine VC.block ?_ | refine VC.skip ?_)
      repeat (first | refine VC.seq ?_ | refine VC.block ?_ | refine VC.skip ?_)
      refine VC.region ?_
      refine VR.pure rfl rfl (p_moveI rfl) ?_
      refine VR.pure rfl rfl (p_add64 rfl rfl (by omega)) ?_
      refine VR.pure rfl rfl (p_assignI rfl) ?_
      refine VR.nil ?_
      exact ⟨k + 1, ⟨rfl, rfl, rfl, rfl, trivial⟩, ⟨hm, by omega⟩, by omega⟩
    · repeat (first | refine VC.seq ?_ | refine VC.block ?_ | refine VC.skip ?_)
      refine VC.loud (Kept F []) [30] rfl (by kernel_rfl) (Kept.of0 hm.drew) ?_
      replace hm := hm.drew
      refine VL.pure rfl rfl rfl (p_moveI rfl) ?_
      refine VL.pure rfl rfl rfl (p_moveL rfl) ?_
      refine VL.pure rfl rfl rfl (p_len Try.underlying22 rfl) ?_
      refine VL.pure rfl rfl rfl (p_lt rfl rfl) ?_
      refine VL.pure rfl rfl rfl (p_moveB rfl) ?_
      refine VL.knownF 27 rfl (decide_eq_false (by omega)) ?_
      refine VL.pass rfl rfl ?_
      refine VL.pass rfl rfl ?_
      refine VL.pass rfl rfl ?_
      refine VL.pass rfl rfl ?_
      refine VL.pass rfl rfl ?_
      refine VL.pass rfl rfl ?_
      refine VL.pass rfl rfl ?_
      refine VL.pass rfl rfl ?_
      refine VL.pass rfl rfl ?_
      refine VL.pass rfl rfl ?_
      refine VL.pure rfl rfl rfl (p_pickF rfl rfl) ?_
      refine VL.pure rfl rfl rfl (p_moveB rfl) ?_
      refine VL.pureG rfl rfl rfl (p_moveI rfl) ?_
      refine VL.pureG rfl rfl rfl (p_moveL rfl) ?_
      refine VL.pureG rfl rfl rfl (p_len Try.underlying22 rfl) ?_
      refine VL.pureG rfl rfl rfl (p_ge rfl rfl) ?_
      refine VL.pureG rfl rfl rfl (p_moveB rfl) ?_
      refine VL.knownT 44 rfl (decide_eq_true (by omega)) ?_
      refine VL.pureG rfl rfl rfl (p_moveL rfl) ?_
      refine VL.pureG rfl rfl rfl (p_moveI rfl) ?_
      refine VL.pureG rfl rfl rfl (p_idx1 Try.underlying22 Try.sizeOf5 rfl rfl hk') ?_
      refine VL.readG rfl rfl rfl (fun w' hw' => r_load (v := .int _ _) Try.isAgg5 rfl (hw'.fix _ _ hb) ((hcc k hk').trans (byte_at hz))) ?_
      refine VL.pureG rfl rfl rfl (p_moveI rfl) ?_
      refine VL.pureG rfl rfl rfl (p_moveL rfl) ?_
      refine VL.pureG rfl rfl rfl (p_len Try.underlying22 rfl) ?_
      refine VL.pureG rfl rfl rfl (p_sub64 rfl rfl (by omega)) ?_
      refine VL.callG rfl rfl rfl (r_call2 Try.call52 rfl rfl) (markByte_c (by omega)) ?_
      rintro _ _ ⟨rfl, rfl⟩
      refine ⟨Kept.of0 hm, ?_⟩
      refine VL.pureG rfl rfl rfl (p_eq rfl rfl) ?_
      refine VL.pureG rfl rfl rfl (p_notD rfl) ?_
      refine VL.pureG rfl rfl rfl (p_pickT rfl rfl) ?_
      refine VL.pure rfl rfl rfl (p_pickF rfl rfl) ?_
      refine VL.nil ?_
      repeat (first | refine VC.seq ?_ | refine VC.block ?_ | refine VC.skip ?_)
      refine VC.condF rfl (decide_eq_false (not_not_intro (hz2 h4))) ?_
      repeat (first | refine VC.seq ?_ | refine VC.block ?_ | refine VC.skip ?_)
      repeat (first | refine VC.seq ?_ | refine VC.block ?_ | refine VC.skip ?_)
      refine VC.region ?_
      refine VR.pure rfl rfl (p_moveI rfl) ?_
      refine VR.pure rfl rfl (p_add64 rfl rfl (by omega)) ?_
      refine VR.pure rfl rfl (p_assignI rfl) ?_
      refine VR.nil ?_
      exact ⟨k + 1, ⟨rfl, rfl, rfl, rfl, trivial⟩, ⟨hm, by omega⟩, by omega⟩
  · repeat (first | refine VC.seq ?_ | refine VC.block ?_ | refine VC.skip ?_)
    refine VC.exit ?_
    repeat (first | refine VC.seq ?_ | refine VC.block ?_ | refine VC.skip ?_)
    refine VC.region ?_
    refine VR.pure rfl rfl (p_assignB rfl) ?_
    refine VR.nil ?_
    repeat (first | refine VC.seq ?_ | refine VC.block ?_ | refine VC.skip ?_)
    refine VC.ret ⟨_, ResOf.r1 (v := .bool _) rfl rfl, ?_⟩
    exact ⟨rfl, hm⟩

theorem overB_c {F : Env} {w : World} {Ls : List Blks} {A : Option Addr} {n c : Nat} {xs : List Value} {L : Blks} (hm : Mem F w (L :: Ls)) (hn : n ≤ 140737488355328) (ho : OwnS 5 1 A (n + 12) c xs L) :
    Calls Try.prog 28 #[.slice A n c] w (Ret fun v w' => Mem F w' Ls) := by
  have hle := ho.le
  rcases ho.2 with ⟨_, h0, _⟩ | ⟨g, cur, rfl, rfl, h1, h2, h3, _⟩
  · omega
  refine Calls.of_vc Try.func28 rfl Try.ntmps28 rfl ?_
  repeat (first | refine VC.seq ?_ | refine VC.block ?_ | refine VC.skip ?_)
  refine VC.region ?_
  refine VR.pure rfl rfl (p_moveL rfl) ?_
  refine VR.pure rfl rfl (p_moveL rfl) ?_
  refine VR.pure rfl rfl (p_len Try.underlying22 rfl) ?_
  refine VR.pure rfl rfl (p_add64E (r := ((n + 12 : Nat) : Int)) rfl rfl (by omega) (by omega)) ?_
  refine VR.pure rfl rfl (p_sliceHN (h := n + 12) Try.underlying22 Try.sizeOf5 rfl rfl (by omega)) ?_
  refine VR.pure rfl rfl (p_assignL rfl) ?_
  refine VR.nil ?_
  repeat (first | refine VC.seq ?_ | refine VC.block ?_ | refine VC.skip ?_)
  refine VC.region ?_
  refine VR.pure rfl rfl (p_assignI rfl) ?_
  refine VR.nil ?_
  repeat (first | refine VC.seq ?_ | refine VC.block ?_ | refine VC.skip ?_)
  refine VC.loop (σ := Nat × Array Value) (fun s => [(2, .slice (some ⟨g, 0, none⟩) (n + 12) c), (3, .int .i64 s.1)])
    (fun s w => s.1 ≤ n + 12 ∧ s.2.size = c ∧ Mem F w ([(g, .cells s.2 5 (0, 0))] :: Ls)) (fun s => n + 12 - s.1) (0, cur) ⟨rfl, rfl, trivial⟩ ⟨by omega, by show cur.size = c; omega, hm⟩ ?_
  rintro ⟨k, cur⟩ A' w ⟨hk, hs, hm⟩
  dsimp only at hk hs hm ⊢
  repeat (first | refine VC.seq ?_ | refine VC.block ?_ | refine VC.skip ?_)
  refine VC.region ?_
  refine VR.pure rfl rfl (p_moveI rfl) ?_
  refine VR.pure rfl rfl (p_moveL rfl) ?_
  refine VR.pure rfl rfl (p_len Try.underlying22 rfl) ?_
  refine VR.pure rfl rfl (p_lt rfl rfl) ?_
  refine VR.nil ?_
  repeat (first | refine VC.seq ?_ | refine VC.block ?_ | refine VC.skip ?_)
  refine VC.condD rfl (fun h => ?_) (fun h => ?_)
  · repeat (first | refine VC.seq ?_ | refine VC.block ?_ | refine VC.skip ?_)
    repeat (first | refine VC.seq ?_ | refine VC.block ?_ | refine VC.skip ?_)
    refine VC.region ?_
    refine VR.pure rfl rfl (p_moveL rfl) ?_
    refine VR.pure rfl rfl (p_moveI rfl) ?_
    refine VR.pure rfl rfl (p_moveI rfl) ?_
    refine VR.call rfl rfl (r_call2 Try.call52 rfl rfl) (markByte_c (by omega)) ?_
    rintro _ _ ⟨rfl, rfl⟩
    refine VR.pure rfl rfl (p_idx1 Try.underlying22 Try.sizeOf5 rfl rfl (by omega : k < n + 12)) ?_
    refine VR.store (cs' := (lay cur (0 + k) [.int .u8 (markB 2 (k : Int))])) (v := .int _ _) Try.sizeOf5 rfl rfl rfl rfl rfl hm 0 0 rfl (by omega) rfl ?_
    intro w hm
    refine VR.nil ?_
    repeat (first | refine VC.seq ?_ | refine VC.block ?_ | refine VC.skip ?_)
    refine VC.region ?_
    refine VR.pure rfl rfl (p_moveI rfl) ?_
    refine VR.pure rfl rfl (p_add64 rfl rfl (by omega)) ?_
    refine VR.pure rfl rfl (p_assignI rfl) ?_
    refine VR.nil ?_
    exact ⟨(k + 1, lay cur (0 + k) [.int .u8 (markB 2 (k : Int))]), ⟨rfl, rfl, trivial⟩, ⟨by omega, by rw [lay_size]; exact hs, hm⟩, by omega⟩
  · repeat (first | refine VC.seq ?_ | refine VC.block ?_ | refine VC.skip ?_)
    refine VC.exit ?_
    repeat (first | refine VC.seq ?_ | refine VC.block ?_ | refine VC.skip ?_)
    exact ⟨_, ResOf.r0 rfl, hm.pop⟩

/-- What a mark in a row of texts is. -/
def markTs (k i : Int) : List Int := [35, IntKind.u8.wrap k, IntKind.u8.wrap (k.fdiv (2 ^ 8)), IntKind.u8.wrap (k.fdiv (2 ^ 16)), 47, IntKind.u8.wrap i, IntKind.u8.wrap (i.fdiv (2 ^ 8)), IntKind.u8.wrap (i.fdiv (2 ^ 16))]
def markT (k i : Int) : ByteArray := strOfNums (markTs k i)
theorem markText_c {F : Env} {w : World} {Ls : List Blks} {k i : Int} (hm : Mem F w Ls) (h : 0 ≤ k ∧ k ≤ 1099511627776 ∧ 0 ≤ i ∧ i ≤ 1125899906842624) :
    Calls Try.prog 108 #[.int .i64 k, .int .i64 i] w (Ret fun v w' => v = .string (markT k i) ∧ Mem F w' Ls) := by
  refine Calls.of_vc Try.func108 rfl Try.ntmps108 rfl ?_
  repeat (first | refine VC.seq ?_ | refine VC.block ?_ | refine VC.skip ?_)
  refine VC.region ?_
  refine VR.pure rfl rfl (p_assignZ rfl) ?_
  refine VR.nil ?_
  repeat (first | refine VC.seq ?_ | refine VC.block ?_ | refine VC.skip ?_)
  refine VC.region ?_
  refine VR.pure rfl rfl (p_moveI rfl) ?_
  refine VR.pure rfl rfl (p_conv Try.underlying3 Try.underlying5 rfl) ?_
  refine VR.pure rfl rfl (p_moveI rfl) ?_
  refine VR.pure rfl rfl (p_shr rfl rfl (by decide)) ?_
  refine VR.pure rfl rfl (p_conv Try.underlying3 Try.underlying5 rfl) ?_
  refine VR.pure rfl rfl (p_moveI rfl) ?_
  refine VR.pure rfl rfl (p_shr rfl rfl (by decide)) ?_
  refine VR.pure rfl rfl (p_conv Try.underlying3 Try.underlying5 rfl) ?_
  refine VR.pure rfl rfl (p_moveI rfl) ?_
  refine VR.pure rfl rfl (p_conv Try.underlying3 Try.underlying5 rfl) ?_
  refine VR.pure rfl rfl (p_moveI rfl) ?_
  refine VR.pure rfl rfl (p_shr rfl rfl (by decide)) ?_
  refine VR.pure rfl rfl (p_conv Try.underlying3 Try.underlying5 rfl) ?_
  refine VR.pure rfl rfl (p_moveI rfl) ?_
  refine VR.pure rfl rfl (p_shr rfl rfl (by decide)) ?_
  refine VR.pure rfl rfl (p_conv Try.underlying3 Try.underlying5 rfl) ?_
  refine VR.new hm rfl rfl (n_buildSlice1 (vs := [.int _ _, .int _ _, .int _ _, .int _ _, .int _ _, .int _ _, .int _ _, .int _ _]) Try.underlying22 inf5 rfl rfl rfl rfl rfl rfl rfl) ?_
  intro b21 w hm
  refine VR.val rfl rfl (r_convB Try.underlying22 Try.underlying5 Try.underlying9 rfl (Row.lit (cs := bytes (markTs k i)) (hm.at_ 0 0 rfl)) (show strOfNums (markTs k i) = markT k i from rfl)) ?_
  refine VR.pure rfl rfl (p_assignZ rfl) ?_
  refine VR.nil ?_
  repeat (first | refine VC.seq ?_ | refine VC.block ?_ | refine VC.skip ?_)
  refine VC.ret ⟨_, ResOf.r1 (v := .string _) rfl rfl, ?_⟩
  exact ⟨rfl, hm.pop⟩
section
variable {P : Program} {f : Fr} {dst : Option Tmp} {ty : TypeId} {pos : String} {after : Array Edge} {g : Option (Nat × Bool)}
/-- Bits of one of both: some number. -/
theorem p_xor8 {tx t' : TypeId} {x y : Operand} {a b : Int} (hx : f.ev x = .int .u8 a) (hy : f.ev y = .int .u8 b) :
    Pure P f ⟨dst, .binOp .xor tx x y t', ty, pos, after, g⟩ (.int .u8 (IntKind.u8.wrap ((BitVec.ofInt 8 a ^^^ BitVec.ofInt 8 b).toNat : Int))) :=
  p_bin hx hy fun w => by
    have h0 : (binOp .xor tx (.int .u8 a) (.int .u8 b)).run P w = (Op.intBits .xor .u8 a b).run P w := by simp [binOp]
    rw [h0]
    rfl
end
end Go.Bd
