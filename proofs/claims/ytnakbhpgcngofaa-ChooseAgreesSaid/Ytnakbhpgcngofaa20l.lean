/- Contracts of layer 20: members and configs lent, kept, written over. Conditions: as each states. -/
import Derived.Test.Ytnakbhpgcngofaa20k
namespace Go.Bd
open Go.Proofs
set_option linter.unusedVariables false
set_option maxRecDepth 20000

def marksM (n : Nat) : List Mb := (List.range n).map fun i : Nat => mkm 1 i
theorem marksM_len (n : Nat) : (marksM n).length = n := by simp [marksM]
theorem marksM_succ (n : Nat) : marksM (n + 1) = marksM n ++ [mkm 1 n] := by simp [marksM, List.range_succ]
theorem marksM_at {n i : Nat} (h : i < n) : (marksM n)[i]? = some (mkm 1 i) := by simp [marksM, h]
theorem mcells_app (a b : List Mb) : mcells (a ++ b) = mcells a ++ mcells b := by
  show (a ++ b).flatMap Mb.cells = a.flatMap Mb.cells ++ b.flatMap Mb.cells
  rw [List.flatMap_append]
theorem MRow.left {H : Nat → Option Obj} {A : Option Addr} {n q : Nat} {ms ks : List Mb} (h : MRow H A (n + q) (ms ++ ks)) (hl : ms.length = n) : MRow H A n ms := by
  have h1 := Row.take h (k := n * 4) (by omega)
  rwa [mcells_app, List.take_left' (by rw [flat_len Mb.len, hl])] at h1

theorem lentM_c {F : Env} {w : World} {Ls : List Blks} {A : Option Addr} {n c : Nat} {ms : List Mb} (hm : Mem F w Ls) (hn : n * 32 ≤ 140737488355328) (hr : MRow F.heap A n ms) :
    Calls Try.prog 48 #[.slice A n c] w (Ret fun v w' => ∃ A' c' L, v = .slice A' n c' ∧ OwnS 99 4 A' (n + 12) c' (mcells (ms ++ marksM 12)) L ∧ Mem F w' (L :: Ls)) := by
  refine Calls.of_vc Try.func48 rfl Try.ntmps48 rfl ?_
  repeat (first | refine VC.seq ?_ | refine VC.block ?_ | refine VC.skip ?_)
  refine VC.region ?_
  refine VR.pure rfl rfl (p_assignL rfl) ?_
  refine VR.nil ?_
  repeat (first | refine VC.seq ?_ | refine VC.block ?_ | refine VC.skip ?_)
  refine VC.region ?_
  refine VR.pure rfl rfl (p_moveL rfl) ?_
  refine VR.pure rfl rfl (p_len Try.underlying40 rfl) ?_
  refine VR.pure rfl rfl (p_add64E (r := ((n + 12 : Nat) : Int)) rfl rfl (by omega) (by omega)) ?_
  refine VR.new hm rfl rfl (n_makeSlice (s := 4) (bytes := 32) Try.underlying40 inf99 rfl rfl rfl rfl rfl (by omega) (by omega)) ?_
  intro g3 w hm
  refine VR.pure rfl rfl (p_assignL rfl) ?_
  refine VR.nil ?_
  repeat (first | refine VC.seq ?_ | refine VC.block ?_ | refine VC.skip ?_)
  refine VC.region ?_
  refine VR.pure rfl rfl (p_moveL rfl) ?_
  refine VR.pure rfl rfl (p_moveL rfl) ?_
  refine VR.appendI (s := 4) Try.underlying40 inf99 rfl rfl rfl rfl rfl rfl hm (OwnS.made (c := (n + 12 : Nat)) (by unfold maxLen; omega) (by rw [size_madeCells]; rfl)) (hr.mono hm.fix) (mcells_one ms) (Nat.zero_add n) (by omega) ?_
  intro cur2 w ho2 hm
  refine VR.pure rfl rfl (p_assignL rfl) ?_
  refine VR.nil ?_
  repeat (first | refine VC.seq ?_ | refine VC.block ?_ | refine VC.skip ?_)
  refine VC.region ?_
  refine VR.pure rfl rfl (p_assignI rfl) ?_
  refine VR.nil ?_
  repeat (first | refine VC.seq ?_ | refine VC.block ?_ | refine VC.skip ?_)
  refine VC.loop (σ := Nat × Array Value) (fun s => [(0, .slice A n c), (3, .slice (some ⟨g3, 0, none⟩) (n + s.1) (n + 12)), (4, .int .i64 s.1)])
    (fun s w => s.1 ≤ 12 ∧ OwnS 99 4 (some ⟨g3, 0, none⟩) (n + s.1) (n + 12) (mcells (ms ++ marksM s.1)) [(g3, .cells s.2 99 (0, 0))] ∧ Mem F w ([(g3, .cells s.2 99 (0, 0))] :: Ls)) (fun s => 12 - s.1) (0, cur2) ⟨rfl, rfl, rfl, trivial⟩ ⟨by omega, by
      have h2 : OwnS 99 4 (some ⟨g3, 0, none⟩) n (n + 12) ([] ++ mcells ms) [(g3, .cells cur2 99 (0, 0))] := ho2
      simpa [marksM] using h2, hm⟩ ?_
  rintro ⟨j, cur3⟩ A' w ⟨hj, ho, hm⟩
  dsimp only at hj ho hm ⊢
  repeat (first | refine VC.seq ?_ | refine VC.block ?_ | refine VC.skip ?_)
  refine VC.region ?_
  refine VR.pure rfl rfl (p_moveI rfl) ?_
  refine VR.pure rfl rfl (p_lt rfl rfl) ?_
  refine VR.nil ?_
  repeat (first | refine VC.seq ?_ | refine VC.block ?_ | refine VC.skip ?_)
  refine VC.condD rfl (fun h => ?_) (fun h => ?_)
  · repeat (first | refine VC.seq ?_ | refine VC.block ?_ | refine VC.skip ?_)
    repeat (first | refine VC.seq ?_ | refine VC.block ?_ | refine VC.skip ?_)
    refine VC.region ?_
    refine VR.pure rfl rfl (p_moveL rfl) ?_
    refine VR.pure rfl rfl (p_moveI rfl) ?_
    refine VR.call rfl rfl (r_call2 Try.call68 rfl rfl) (markMember_c hm (by omega)) ?_
    rintro _ w ⟨rfl, hm⟩
    refine VR.new hm rfl rfl (n_buildSlice (vs := [.agg _]) Try.underlying40 inf99 rfl rfl rfl rfl rfl rfl) ?_
    intro g6 w hm
    replace hm := hm.swap
    refine VR.appendI (s := 4) Try.underlying40 inf99 rfl rfl rfl rfl rfl rfl hm ho (Row.lit (cs := (mkm 1 j).cells) (hm.at_ 1 0 rfl)) (mcells_one [mkm 1 j]) rfl (by omega) ?_
    intro cur4 w ho4 hm
    refine VR.pure rfl rfl (p_assignL rfl) ?_
    refine VR.nil ?_
    repeat (first | refine VC.seq ?_ | refine VC.block ?_ | refine VC.skip ?_)
    refine VC.region ?_
    refine VR.pure rfl rfl (p_moveI rfl) ?_
    refine VR.pure rfl rfl (p_add64 rfl rfl (by omega)) ?_
    refine VR.pure rfl rfl (p_assignI rfl) ?_
    refine VR.nil ?_
    refine ⟨(j + 1, cur4), ⟨rfl, rfl, rfl, trivial⟩, ⟨by omega, ?_, hm.pop2⟩, by omega⟩
    rw [marksM_succ, ← List.append_assoc, mcells_app]
    exact ho4
  · repeat (first | refine VC.seq ?_ | refine VC.block ?_ | refine VC.skip ?_)
    refine VC.exit ?_
    obtain rfl : j = 12 := by omega
    repeat (first | refine VC.seq ?_ | refine VC.block ?_ | refine VC.skip ?_)
    refine VC.region ?_
    refine VR.pure rfl rfl (p_moveL rfl) ?_
    refine VR.pure rfl rfl (p_moveL rfl) ?_
    refine VR.pure rfl rfl (p_len Try.underlying40 rfl) ?_
    refine VR.pure rfl rfl (p_sliceHN Try.underlying40 Try.sizeOf99 rfl rfl (by omega)) ?_
    refine VR.pure rfl rfl (p_assignL rfl) ?_
    refine VR.nil ?_
    repeat (first | refine VC.seq ?_ | refine VC.block ?_ | refine VC.skip ?_)
    refine VC.ret ⟨_, ResOf.r1 (v := .slice _ _ _) rfl rfl, ?_⟩
    exact ⟨_, _, _, rfl, ho, hm⟩

theorem leftM_at {l m : List Mb} {k : Nat} {z : Mb} (h : (l ++ m)[k]? = some z) (hk : k < l.length) : l[k]? = some z := by rwa [List.getElem?_append_left hk] at h
theorem keptM_c {F : Env} {w : World} {Ls : List Blks} {A B : Option Addr} {n c d : Nat} {l : List Mb} (hm : Mem F w Ls) (hn : n ≤ 140737488355328) (hc : n + 12 ≤ c) (hr : MRow F.heap A (n + 12) (l ++ marksM 12)) (hs : MRow F.heap B n l) :
    Calls Try.prog 52 #[.slice A n c, .slice B n d] w (Ret fun v w' => v = .bool true ∧ Mem F w' Ls) := by
  have hl := hs.len
  refine Calls.of_vc Try.func52 rfl Try.ntmps52 rfl ?_
  repeat (first | refine VC.seq ?_ | refine VC.block ?_ | refine VC.skip ?_)
  refine VC.region ?_
  refine VR.pure rfl rfl (p_assignB rfl) ?_
  refine VR.nil ?_
  repeat (first | refine VC.seq ?_ | refine VC.block ?_ | refine VC.skip ?_)
  refine VC.region ?_
  refine VR.pure rfl rfl (p_moveL rfl) ?_
  refine VR.pure rfl rfl (p_len Try.underlying40 rfl) ?_
  refine VR.pure rfl rfl (p_moveL rfl) ?_
  refine VR.pure rfl rfl (p_len Try.underlying40 rfl) ?_
  refine VR.pure rfl rfl (p_ne rfl rfl) ?_
  refine VR.nil ?_
  repeat (first | refine VC.seq ?_ | refine VC.block ?_ | refine VC.skip ?_)
  refine VC.condF rfl (decide_eq_false (not_not_intro rfl)) ?_
  repeat (first | refine VC.seq ?_ | refine VC.block ?_ | refine VC.skip ?_)
  refine VC.region ?_
  refine VR.pure rfl rfl (p_moveL rfl) ?_
  refine VR.pure rfl rfl (p_moveL rfl) ?_
  refine VR.pure rfl rfl (p_len Try.underlying40 rfl) ?_
  refine VR.pure rfl rfl (p_add64E (r := ((n + 12 : Nat) : Int)) rfl rfl (by omega) (by omega)) ?_
  refine VR.pure rfl rfl (p_sliceHN (h := n + 12) Try.underlying40 Try.sizeOf99 rfl rfl (by omega)) ?_
  refine VR.pure rfl rfl (p_assignL rfl) ?_
  refine VR.nil ?_
  repeat (first | refine VC.seq ?_ | refine VC.block ?_ | refine VC.skip ?_)
  refine VC.region ?_
  refine VR.pure rfl rfl (p_assignI rfl) ?_
  refine VR.nil ?_
  repeat (first | refine VC.seq ?_ | refine VC.block ?_ | refine VC.skip ?_)
  refine VC.loop (σ := Nat) (fun k => [(0, .slice A n c), (1, .slice B n d), (5, .slice A (n + 12) c), (6, .int .i64 k)]) (fun k w => Mem F w Ls ∧ k ≤ n + 12) (fun k => n + 12 - k) 0 ⟨rfl, rfl, rfl, rfl, trivial⟩ ⟨hm, by omega⟩ ?_
  rintro k A' w ⟨hm, hk⟩
  repeat (first | refine VC.seq ?_ | refine VC.block ?_ | refine VC.skip ?_)
  refine VC.region ?_
  refine VR.pure rfl rfl (p_moveI rfl) ?_
  refine VR.pure rfl rfl (p_moveL rfl) ?_
  refine VR.pure rfl rfl (p_len Try.underlying40 rfl) ?_
  refine VR.pure rfl rfl (p_lt rfl rfl) ?_
  refine VR.nil ?_
  repeat (first | refine VC.seq ?_ | refine VC.block ?_ | refine VC.skip ?_)
  refine VC.condD rfl (fun h => ?_) (fun h => ?_)
  · have hk' : k < n + 12 := by omega
    obtain ⟨z, hz, _⟩ := get_of (xs := l ++ marksM 12) (k := k) (by rw [List.length_append, marksM_len]; omega)
    obtain ⟨b, off, blk, T, fr, hA, hb, hcc⟩ := hr.elem Mb.len (by decide) (by omega)
    rw [hA]
    have hz2 : ¬ k < n → z = ⟨1000003 * (1 + 7) + ((k : Int) - n), 0, 0, 0⟩ := fun h2 => by
      rw [List.getElem?_append_right (by omega), marksM_at (by omega)] at hz
      rw [← Option.some.inj hz]
      unfold mkm mark1
      congr 1
      omega
    by_cases h4 : k < n
    · obtain ⟨b2, off2, blk2, T2, fr2, hB, hb2, hc2⟩ := hs.elem Mb.len (by decide) (by omega)
      rw [hB]
      repeat (first | refine VC.seq ?_ | refine VC.block ?_ | refine VC.skip ?_)
      refine VC.loud (Kept F []) [30] rfl (by kernel_rfl) (Kept.of0 hm.drew) ?_
      replace hm := hm.drew
      refine VL.pure rfl rfl rfl (p_moveI rfl) ?_
      refine VL.pure rfl rfl rfl (p_moveL rfl) ?_
      refine VL.pure rfl rfl rfl (p_len Try.underlying40 rfl) ?_
      refine VL.pure rfl rfl rfl (p_lt rfl rfl) ?_
      refine VL.pure rfl rfl rfl (p_moveB rfl) ?_
      refine VL.knownT 27 rfl (decide_eq_true (by omega)) ?_
      refine VL.pureG rfl rfl rfl (p_moveL rfl) ?_
      refine VL.pureG rfl rfl rfl (p_moveI rfl) ?_
      refine VL.pureG rfl rfl rfl (p_idxN Try.underlying40 Try.sizeOf99 rfl rfl hk') ?_
      refine VL.readG rfl rfl rfl (fun w' hw' => r_loadAgg (vs := [.int _ _, .int _ _, .int _ _, .int _ _]) Try.isAgg99 Try.sizeOf99 rfl (hw'.fix _ _ hb) rfl (hcc k z hz)) ?_
      refine VL.pureG rfl rfl rfl (p_moveL rfl) ?_
      refine VL.pureG rfl rfl rfl (p_moveI rfl) ?_
      refine VL.pureG rfl rfl rfl (p_idxN Try.underlying40 Try.sizeOf99 rfl rfl h4) ?_
      refine VL.readG rfl rfl rfl (fun w' hw' => r_loadAgg (vs := [.int _ _, .int _ _, .int _ _, .int _ _]) Try.isAgg99 Try.sizeOf99 rfl (hw'.fix _ _ hb2) rfl (hc2 k z (leftM_at hz (by omega)))) ?_
      refine VL.pureG rfl rfl rfl (p_eqG Try.underlying99 sih99 eqg99 rfl rfl (fields_member z z _ Try.underlying99)) ?_
      refine VL.pureG rfl rfl rfl (p_notD rfl) ?_
      refine VL.pure rfl rfl rfl (p_pickT rfl rfl) ?_
      refine VL.pure rfl rfl rfl (p_moveB rfl) ?_
      refine VL.knownF 39 rfl (decide_eq_false (not_not_intro rfl)) ?_
      refine VL.pureG rfl rfl rfl (p_moveI rfl) ?_
      refine VL.pureG rfl rfl rfl (p_moveL rfl) ?_
      refine VL.pureG rfl rfl rfl (p_len Try.underlying40 rfl) ?_
      refine VL.pureG rfl rfl rfl (p_ge rfl rfl) ?_
      refine VL.pureG rfl rfl rfl (p_moveB rfl) ?_
      refine VL.knownF 44 rfl (decide_eq_false (by omega)) ?_
      refine VL.pass rfl rfl ?_
      refine VL.pass rfl rfl ?_
      refine VL.pass rfl rfl ?_
      refine VL.pass rfl rfl ?_
      refine VL.pass rfl rfl ?_
      refine VL.pass rfl rfl ?_
      refine VL.pass rfl rfl ?_
      refine VL.pass rfl rfl ?_
      refine VL.pass rfl rfl ?_
      refine VL.pass rfl rfl ?_
      refine VL.pass rfl rfl ?_
      refine VL.pureG rfl rfl rfl (p_pickF rfl rfl) ?_
      refine VL.pure rfl rfl rfl (p_pickF rfl rfl) ?_
      refine VL.nil ?_
      repeat (first | refine VC.seq ?_ | refine VC.block ?_ | refine VC.skip ?_)
      refine VC.condF rfl rfl ?_
      repeat (first | refine VC.seq ?_ | refine VC.block ?_ | refine VC.skip ?_)
      repeat (first | refine VC.seq ?_ | refine VC.block ?_ | refine VC.skip ?_)
      refine VC.region ?_
      refine VR.pure rfl rfl (p_moveI rfl) ?_
      refine VR.pure rfl rfl (p_add64 rfl rfl (by omega)) ?_
      refine VR.pure rfl rfl (p_assignI rfl) ?_
      refine VR.nil ?_
      exact ⟨k + 1, ⟨rfl, rfl, rfl, rfl, trivial⟩, ⟨hm, by omega⟩, by omega⟩
    · repeat (first | refine VC.seq ?_ | refine VC.block ?_ | refine VC.skip ?_)
      refine VC.loud (Kept F []) [30] rfl (by kernel_rfl) (Kept.of0 hm.drew) ?_
      replace hm := hm.drew
      refine VL.pure rfl rfl rfl (p_moveI rfl) ?_
      refine VL.pure rfl rfl rfl (p_moveL rfl) ?_
      refine VL.pure rfl rfl rfl (p_len Try.underlying40 rfl) ?_
      refine VL.pure rfl rfl rfl (p_lt rfl rfl) ?_
      refine VL.pure rfl rfl rfl (p_moveB rfl) ?_
      refine VL.knownF 27 rfl (decide_eq_false (by omega)) ?_
      refine VL.pass rfl rfl ?_
      refine VL.pass rfl rfl ?_
      refine VL.pass rfl rfl ?_
      refine VL.pass rfl rfl ?_
      refine VL.pass rfl rfl ?_
      refine VL.pass rfl rfl ?_
      refine VL.pass rfl rfl ?_
      refine VL.pass rfl rfl ?_
      refine VL.pass rfl rfl ?_
      refine VL.pass rfl rfl ?_
      refine VL.pure rfl rfl rfl (p_pickF rfl rfl) ?_
      refine VL.pure rfl rfl rfl (p_moveB rfl) ?_
      refine VL.pureG rfl rfl rfl (p_moveI rfl) ?_
      refine VL.pureG rfl rfl rfl (p_moveL rfl) ?_
      refine VL.pureG rfl rfl rfl (p_len Try.underlying40 rfl) ?_
      refine VL.pureG rfl rfl rfl (p_ge rfl rfl) ?_
      refine VL.pureG rfl rfl rfl (p_moveB rfl) ?_
      refine VL.knownT 44 rfl (decide_eq_true (by omega)) ?_
      refine VL.pureG rfl rfl rfl (p_moveL rfl) ?_
      refine VL.pureG rfl rfl rfl (p_moveI rfl) ?_
      refine VL.pureG rfl rfl rfl (p_idxN Try.underlying40 Try.sizeOf99 rfl rfl hk') ?_
      refine VL.readG rfl rfl rfl (fun w' hw' => r_loadAgg (vs := [.int _ _, .int _ _, .int _ _, .int _ _]) Try.isAgg99 Try.sizeOf99 rfl (hw'.fix _ _ hb) rfl (hcc k z hz)) ?_
      refine VL.pureG rfl rfl rfl (p_moveI rfl) ?_
      refine VL.pureG rfl rfl rfl (p_moveL rfl) ?_
      refine VL.pureG rfl rfl rfl (p_len Try.underlying40 rfl) ?_
      refine VL.pureG rfl rfl rfl (p_sub64 rfl rfl (by omega)) ?_
      refine VL.callG rfl rfl rfl (r_call2 Try.call68 rfl rfl) (markMember_c hm (by omega)) ?_
      rintro _ w ⟨rfl, hm⟩
      refine ⟨Kept.of0 hm, ?_⟩
      refine VL.pureG rfl rfl rfl (p_eqG Try.underlying99 sih99 eqg99 rfl rfl (fields_member z ⟨1000003 * (1 + 7) + ((k : Int) - n), 0, 0, 0⟩ _ Try.underlying99)) ?_
      refine VL.pureG rfl rfl rfl (p_notD rfl) ?_
      refine VL.pureG rfl rfl rfl (p_pickT rfl rfl) ?_
      refine VL.pure rfl rfl rfl (p_pickF rfl rfl) ?_
      refine VL.nil ?_
      repeat (first | refine VC.seq ?_ | refine VC.block ?_ | refine VC.skip ?_)
      refine VC.condF rfl (decide_eq_false (not_not_intro (hz2 h4))) ?_
      repeat (first | refine VC.seq ?_ | refine VC.block ?_ | refine VC.skip ?_)
      repeat (first | refine VC.seq ?_ | refine VC.block ?_ | refine VC.skip ?_)
      refine VC.region ?_
      refine VR.pure rfl rfl (p_moveI rfl) ?_
      refine VR.pure rfl rfl (p_add64 rfl rfl (by omega)) ?_
      refine VR.pure rfl rfl (p_assignI rfl) ?_
      refine VR.nil ?_
      exact ⟨k + 1, ⟨rfl, rfl, rfl, rfl, trivial⟩, ⟨hm, by omega⟩, by omega⟩
  · repeat (first | refine VC.seq ?_ | refine VC.block ?_ | refine VC.skip ?_)
    refine VC.exit ?_
    repeat (first | refine VC.seq ?_ | refine VC.block ?_ | refine VC.skip ?_)
    refine VC.region ?_
    refine VR.pure rfl rfl (p_assignB rfl) ?_
    refine VR.nil ?_
    repeat (first | refine VC.seq ?_ | refine VC.block ?_ | refine VC.skip ?_)
    refine VC.ret ⟨_, ResOf.r1 (v := .bool _) rfl rfl, ?_⟩
    exact ⟨rfl, hm⟩

theorem overM_c {F : Env} {w : World} {Ls : List Blks} {A : Option Addr} {n c : Nat} {xs : List Value} {L : Blks} (hm : Mem F w (L :: Ls)) (hn : n ≤ 140737488355328) (ho : OwnS 99 4 A (n + 12) c xs L) :
    Calls Try.prog 54 #[.slice A n c] w (Ret fun v w' => Mem F w' Ls) := by
  have hle := ho.le
  rcases ho.2 with ⟨_, h0, _⟩ | ⟨g, cur, rfl, rfl, h1, h2, h3, _⟩
  · omega
  refine Calls.of_vc Try.func54 rfl Try.ntmps54 rfl ?_
  repeat (first | refine VC.seq ?_ | refine VC.block ?_ | refine VC.skip ?_)
  refine VC.region ?_
  refine VR.pure rfl rfl (p_moveL rfl) ?_
  refine VR.pure rfl rfl (p_moveL rfl) ?_
  refine VR.pure rfl rfl (p_len Try.underlying40 rfl) ?_
  refine VR.pure rfl rfl (p_add64E (r := ((n + 12 : Nat) : Int)) rfl rfl (by omega) (by omega)) ?_
  refine VR.pure rfl rfl (p_sliceHN (h := n + 12) Try.underlying40 Try.sizeOf99 rfl rfl (by omega)) ?_
  refine VR.pure rfl rfl (p_assignL rfl) ?_
  refine VR.nil ?_
  repeat (first | refine VC.seq ?_ | refine VC.block ?_ | refine VC.skip ?_)
  refine VC.region ?_
  refine VR.pure rfl rfl (p_assignI rfl) ?_
  refine VR.nil ?_
  repeat (first | refine VC.seq ?_ | refine VC.block ?_ | refine VC.skip ?_)
  refine VC.loop (σ := Nat × Array Value) (fun s => [(2, .slice (some ⟨g, 0, none⟩) (n + 12) c), (3, .int .i64 s.1)])
    (fun s w => s.1 ≤ n + 12 ∧ s.2.size = c * 4 ∧ Mem F w ([(g, .cells s.2 99 (0, 0))] :: Ls)) (fun s => n + 12 - s.1) (0, cur) ⟨rfl, rfl, trivial⟩ ⟨by omega, h3, hm⟩ ?_
  rintro ⟨k, cur⟩ A' w ⟨hk, hs, hm⟩
  dsimp only at hk hs hm ⊢
  repeat (first | refine VC.seq ?_ | refine VC.block ?_ | refine VC.skip ?_)
  refine VC.region ?_
  refine VR.pure rfl rfl (p_moveI rfl) ?_
  refine VR.pure rfl rfl (p_moveL rfl) ?_
  refine VR.pure rfl rfl (p_len Try.underlying40 rfl) ?_
  refine VR.pure rfl rfl (p_lt rfl rfl) ?_
  refine VR.nil ?_
  repeat (first | refine VC.seq ?_ | refine VC.block ?_ | refine VC.skip ?_)
  refine VC.condD rfl (fun h => ?_) (fun h => ?_)
  · repeat (first | refine VC.seq ?_ | refine VC.block ?_ | refine VC.skip ?_)
    repeat (first | refine VC.seq ?_ | refine VC.block ?_ | refine VC.skip ?_)
    refine VC.region ?_
    refine VR.pure rfl rfl (p_moveL rfl) ?_
    refine VR.pure rfl rfl (p_moveI rfl) ?_
    refine VR.pure rfl rfl (p_moveI rfl) ?_
    refine VR.call rfl rfl (r_call2 Try.call68 rfl rfl) (markMember_c hm (by omega)) ?_
    rintro _ w ⟨rfl, hm⟩
    refine VR.pure rfl rfl (p_idxN Try.underlying40 Try.sizeOf99 rfl rfl (by omega : k < n + 12)) ?_
    refine VR.store (cs' := (lay cur (0 + k * 4) [.int .i64 (1000003 * (2 + 7) + (k : Int)), .int .u8 0, .int .i64 0, .int .i64 0])) (v := .agg _) Try.sizeOf99 rfl rfl rfl rfl rfl hm 0 0 rfl (by omega) rfl ?_
    intro w hm
    refine VR.nil ?_
    repeat (first | refine VC.seq ?_ | refine VC.block ?_ | refine VC.skip ?_)
    refine VC.region ?_
    refine VR.pure rfl rfl (p_moveI rfl) ?_
    refine VR.pure rfl rfl (p_add64 rfl rfl (by omega)) ?_
    refine VR.pure rfl rfl (p_assignI rfl) ?_
    refine VR.nil ?_
    exact ⟨(k + 1, lay cur (0 + k * 4) [.int .i64 (1000003 * (2 + 7) + (k : Int)), .int .u8 0, .int .i64 0, .int .i64 0]), ⟨rfl, rfl, trivial⟩, ⟨by omega, by rw [lay_size]; exact hs, hm⟩, by omega⟩
  · repeat (first | refine VC.seq ?_ | refine VC.block ?_ | refine VC.skip ?_)
    refine VC.exit ?_
    repeat (first | refine VC.seq ?_ | refine VC.block ?_ | refine VC.skip ?_)
    exact ⟨_, ResOf.r0 rfl, hm.pop⟩

/-- A config that was lent: it, what was lent, and its members' memory. -/
structure LentE (e o : En) (L : Blks) : Prop where
  ver : o.ver = e.ver
  n : o.n = e.n
  ms : o.ms = e.ms
  own : OwnS 99 4 o.A (o.n + 12) o.c (mcells (o.ms ++ marksM 12)) L
theorem lentE_c {F : Env} {w : World} {Ls : List Blks} {e : En} (hm : Mem F w Ls) (hn : e.n * 32 ≤ 140737488355328) (hr : MRow F.heap e.A e.n e.ms) :
    Calls Try.prog 28 #[.agg #[.int .i64 e.ver, .slice e.A e.n e.c]] w (Ret fun v w' => ∃ o L, v = .agg #[.int .i64 o.ver, .slice o.A o.n o.c] ∧ LentE e o L ∧ Mem F w' (L :: Ls)) := by
  refine Calls.of_vc Try.func28 rfl Try.ntmps28 rfl ?_
  repeat (first | refine VC.seq ?_ | refine VC.block ?_ | refine VC.skip ?_)
  refine VC.region ?_
  refine VR.new hm rfl rfl (n_boxG rfl) ?_
  intro b1 w hm
  refine VR.new hm rfl rfl (n_allocG Try.zeroValue42) ?_
  intro b2 w hm
  refine VR.nil ?_
  repeat (first | refine VC.seq ?_ | refine VC.block ?_ | refine VC.skip ?_)
  refine VC.region ?_
  refine VR.pure rfl rfl (p_field (fo := 1) Try.underlying42 rfl Try.sizeOf40 rfl rfl rfl) ?_
  refine VR.val rfl rfl (r_load (v := .slice _ _ _) Try.isAgg40 rfl (hm.at_ 1 0 rfl) rfl) ?_
  refine VR.call rfl rfl (r_call1 Try.call48 rfl) (lentM_c hm hn hr) ?_
  rintro _ w ⟨A2, c2, L2, rfl, ho2, hm⟩
  refine VR.pure rfl rfl (p_field (fo := 1) Try.underlying42 rfl Try.sizeOf40 rfl rfl rfl) ?_
  refine VR.store (cs' := #[.int .i64 e.ver, .slice A2 e.n c2]) (v := .slice _ _ _) Try.sizeOf40 rfl rfl rfl rfl rfl hm 2 0 rfl (Nat.ble_eq.mp rfl) rfl ?_
  intro w hm
  refine VR.nil ?_
  repeat (first | refine VC.seq ?_ | refine VC.block ?_ | refine VC.skip ?_)
  refine VC.region ?_
  refine VR.val rfl rfl (r_loadAgg (vs := [.int _ _, .slice _ _ _]) Try.isAgg42 Try.sizeOf42 rfl (hm.at_ 2 0 rfl) rfl (agg_at rfl)) ?_
  refine VR.store (cs' := #[.int .i64 e.ver, .slice A2 e.n c2]) (v := .agg _) Try.sizeOf42 rfl rfl rfl rfl rfl hm 1 0 rfl (Nat.ble_eq.mp rfl) rfl ?_
  intro w hm
  refine VR.nil ?_
  repeat (first | refine VC.seq ?_ | refine VC.block ?_ | refine VC.skip ?_)
  refine VC.ret ⟨_, ResOf.r1 (v := .agg _) rfl ⟨_, rfl, run_loadVarAgg Try.isAgg42 Try.sizeOf42 (hm.at_ 1 0 rfl) (vs := [.int .i64 e.ver, .slice A2 e.n c2]) rfl (agg_at rfl)⟩, ?_⟩
  exact ⟨⟨e.ver, A2, e.n, c2, e.ms⟩, L2, rfl, ⟨rfl, rfl, rfl, ho2⟩, hm.pop2.pop2⟩
theorem LentE.row {e o : En} {L : Blks} (h : LentE e o L) {H : Nat → Option Obj} (hH : ∀ p ∈ L, H p.1 = some p.2) : MRow H o.A (o.n + 12) (o.ms ++ marksM 12) := h.own.row hH
theorem keptE_c {F : Env} {w : World} {Ls : List Blks} {e o : En} {L : Blks} (hm : Mem F w Ls) (h : LentE e o L) (hL : ∀ p ∈ L, F.heap p.1 = some p.2) (hn : e.n ≤ 140737488355328) (hr : MRow F.heap e.A e.n e.ms) :
    Calls Try.prog 32 #[.agg #[.int .i64 o.ver, .slice o.A o.n o.c], .agg #[.int .i64 e.ver, .slice e.A e.n e.c]] w (Ret fun v w' => v = .bool true ∧ Mem F w' Ls) := by
  have h1 := h.row hL
  have hle := h.own.le
  have hlen := hr.len
  obtain ⟨ov, oA, on, oc, oms⟩ := o
  obtain ⟨ev, eA, en, ec, ems⟩ := e
  obtain ⟨rfl, rfl, rfl, ho⟩ := h
  dsimp only at h1 hle hlen hr hn ⊢
  refine Calls.of_vc Try.func32 rfl Try.ntmps32 rfl ?_
  repeat (first | refine VC.seq ?_ | refine VC.block ?_ | refine VC.skip ?_)
  refine VC.region ?_
  refine VR.new hm rfl rfl (n_boxG rfl) ?_
  intro b1 w hm
  refine VR.new hm rfl rfl (n_boxG rfl) ?_
  intro b2 w hm
  refine VR.pure rfl rfl (p_assignB rfl) ?_
  refine VR.nil ?_
  repeat (first | refine VC.seq ?_ | refine VC.block ?_ | refine VC.skip ?_)
  refine VC.region ?_
  refine VR.val rfl rfl (r_loadAgg (vs := [.int _ _, .slice _ _ _]) Try.isAgg42 Try.sizeOf42 rfl (hm.at_ 1 0 rfl) rfl (agg_at rfl)) ?_
  refine VR.val rfl rfl (r_loadAgg (vs := [.int _ _, .slice _ _ _]) Try.isAgg42 Try.sizeOf42 rfl (hm.at_ 0 0 rfl) rfl (agg_at rfl)) ?_
  refine VR.call rfl rfl (r_call2 Try.call33 rfl rfl) (same_ensemble_c (e := ⟨ov, oA, on, oc, oms⟩) (e' := ⟨ov, eA, on, ec, oms⟩) hm (by unfold maxLen; show on ≤ _; omega) (h1.left hlen) hr) ?_
  rintro _ w ⟨rfl, hm⟩
  refine VR.pure rfl rfl (p_moveB rfl) ?_
  refine VR.knownT 8 rfl (decide_eq_true rfl) ?_
  refine VR.pureG rfl rfl (p_field (fo := 1) Try.underlying42 rfl Try.sizeOf40 rfl rfl rfl) ?_
  refine VR.valG rfl rfl (r_load (v := .slice _ _ _) Try.isAgg40 rfl (hm.at_ 1 0 rfl) rfl) ?_
  refine VR.pureG rfl rfl (p_field (fo := 1) Try.underlying42 rfl Try.sizeOf40 rfl rfl rfl) ?_
  refine VR.valG rfl rfl (r_load (v := .slice _ _ _) Try.isAgg40 rfl (hm.at_ 0 0 rfl) rfl) ?_
  refine VR.callG rfl rfl (r_call2 Try.call52 rfl rfl) (keptM_c hm hn (by omega) h1 hr) ?_
  rintro _ w ⟨rfl, hm⟩
  refine VR.pure rfl rfl (p_pickT rfl rfl) ?_
  refine VR.pure rfl rfl (p_assignB rfl) ?_
  refine VR.nil ?_
  repeat (first | refine VC.seq ?_ | refine VC.block ?_ | refine VC.skip ?_)
  refine VC.ret ⟨_, ResOf.r1 (v := .bool _) rfl rfl, ?_⟩
  exact ⟨rfl, hm.pop.pop⟩
theorem overE_c {F : Env} {w : World} {Ls : List Blks} {e o : En} {L : Blks} (hm : Mem F w (L :: Ls)) (h : LentE e o L) (hn : o.n ≤ 140737488355328) :
    Calls Try.prog 34 #[.agg #[.int .i64 o.ver, .slice o.A o.n o.c]] w (Ret fun v w' => Mem F w' Ls) := by
  refine Calls.of_vc Try.func34 rfl Try.ntmps34 rfl ?_
  repeat (first | refine VC.seq ?_ | refine VC.block ?_ | refine VC.skip ?_)
  refine VC.region ?_
  refine VR.new hm rfl rfl (n_boxG rfl) ?_
  intro b1 w hm
  refine VR.nil ?_
  repeat (first | refine VC.seq ?_ | refine VC.block ?_ | refine VC.skip ?_)
  refine VC.region ?_
  refine VR.pure rfl rfl (p_field (fo := 1) Try.underlying42 rfl Try.sizeOf40 rfl rfl rfl) ?_
  refine VR.val rfl rfl (r_load (v := .slice _ _ _) Try.isAgg40 rfl (hm.at_ 0 0 rfl) rfl) ?_
  replace hm := hm.swap
  refine VR.call rfl rfl (r_call1 Try.call54 rfl) (overM_c hm hn h.own) ?_
  rintro v w hm
  refine VR.nil ?_
  exact ⟨_, ResOf.r0 rfl, hm.pop⟩
end Go.Bd
