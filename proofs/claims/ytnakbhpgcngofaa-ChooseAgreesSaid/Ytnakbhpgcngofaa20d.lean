/- Contracts of layer 20: configs held against each other, and what is too great. Conditions: as each states. -/
import Derived.Test.Ytnakbhpgcngofaa20b
namespace Go.Bd
open Go.Proofs
set_option linter.unusedVariables false
set_option maxRecDepth 20000

theorem fields_member (m m' : Mb) (fs : Array Field) (h : Try.prog.underlying 99 = some (.struct fs)) : fieldsEq Try.prog m.cells.toArray m'.cells.toArray fs.toList = some (decide (m = m')) := by
  rw [Try.underlying99] at h
  cases h
  have e : decide (m = m') = (decide (m.id = m'.id) && (decide (m.role = m'.role) && (decide (m.weight = m'.weight) && (decide (m.group = m'.group) && true)))) := by
    cases m; cases m'
    simp only [Mb.mk.injEq, Bool.and_true]
    rw [Bool.eq_iff_iff]
    simp only [decide_eq_true_eq, Bool.and_eq_true]
  rw [e]
  have h3 := Try.underlying3
  have h63 := Try.underlying97
  simp [fieldsEq, simpleEq, Mb.cells, h3, h63]

theorem same_at {α : Type} {xs ys : List α} {k : Nat} {x y : α} (hx : xs[k]? = some x) (hy : ys[k]? = some y) (h : xs.take k = ys.take k) (e : x = y) : xs.take (k + 1) = ys.take (k + 1) := by
  rw [List.take_add_one, List.take_add_one, h, hx, hy, e]

set_option maxHeartbeats 1000000 in
theorem same_members_c {F : Env} {w : World} {Ls : List Blks} {A B : Option Addr} {n c m d : Nat} {xs ys : List Mb} (hm : Mem F w Ls) (hn : n ≤ maxLen)
    (hr : MRow F.heap A n xs) (hs : MRow F.heap B m ys) :
    Calls Try.prog 53 #[.slice A n c, .slice B m d] w (Ret fun v w' => v = .bool (decide (xs = ys)) ∧ Mem F w' Ls) := by
  have hl := hr.len
  have hl2 := hs.len
  unfold maxLen at hn
  refine Calls.of_vc Try.func53 rfl Try.ntmps53 rfl ?_
  repeat (first | refine VC.seq ?_ | refine VC.block ?_ | refine VC.skip ?_)
  refine VC.region ?_
  refine VR.pure rfl rfl (p_assignB rfl) ?_
  refine VR.nil ?_
  repeat (first | refine VC.seq ?_ | refine VC.block ?_ | refine VC.skip ?_)
  refine VC.region ?_
  refine VR.pure rfl rfl (p_moveL rfl) ?_
  refine VR.pure rfl rfl (p_len Try.underlying40 rfl) ?_
  refine VR.pure rfl rfl (p_moveL rfl) ?_
  refine VR.pure rfl rfl (p_len Try.underlying40 rfl) ?_
  refine VR.pure rfl rfl (p_ne rfl rfl) ?_
  refine VR.nil ?_
  repeat (first | refine VC.seq ?_ | refine VC.block ?_ | refine VC.skip ?_)
  refine VC.condD rfl (fun h => ?_) (fun h => ?_)
  · repeat (first | refine VC.seq ?_ | refine VC.block ?_ | refine VC.skip ?_)
    refine VC.region ?_
    refine VR.pure rfl rfl (p_assignB rfl) ?_
    refine VR.nil ?_
    repeat (first | refine VC.seq ?_ | refine VC.block ?_ | refine VC.skip ?_)
    refine VC.ret ⟨_, ResOf.r1 (v := .bool _) rfl rfl, ?_⟩
    exact ⟨congrArg Value.bool (decide_eq_false (fun e => h (by rw [← hl, ← hl2, e]))).symm, hm⟩
  · have hnm : n = m := by omega
    subst hnm
    repeat (first | refine VC.seq ?_ | refine VC.block ?_ | refine VC.skip ?_)
    refine VC.region ?_
    refine VR.pure rfl rfl (p_assignI rfl) ?_
    refine VR.nil ?_
    repeat (first | refine VC.seq ?_ | refine VC.block ?_ | refine VC.skip ?_)
    refine VC.loop (σ := Nat) (fun k => [(0, .slice A n c), (1, .slice B n d), (5, .int .i64 k)]) (fun k w => Mem F w Ls ∧ k ≤ n ∧ xs.take k = ys.take k) (fun k => n - k) 0 ⟨rfl, rfl, rfl, trivial⟩ ⟨hm, by omega, by simp⟩ ?_
    rintro k A' w ⟨hm, hk, hno⟩
    repeat (first | refine VC.seq ?_ | refine VC.block ?_ | refine VC.skip ?_)
    refine VC.region ?_
    refine VR.pure rfl rfl (p_moveI rfl) ?_
    refine VR.pure rfl rfl (p_moveL rfl) ?_
    refine VR.pure rfl rfl (p_len Try.underlying40 rfl) ?_
    refine VR.pure rfl rfl (p_lt rfl rfl) ?_
    refine VR.nil ?_
    repeat (first | refine VC.seq ?_ | refine VC.block ?_ | refine VC.skip ?_)
    refine VC.condD rfl (fun h => ?_) (fun h => ?_)
    · have hk' : k < n := by omega
      obtain ⟨x, hx, _⟩ := drop_mb (ms := xs) (k := k) (by omega)
      obtain ⟨y, hy, _⟩ := drop_mb (ms := ys) (k := k) (by omega)
      obtain ⟨b, off, blk, T, fr, rfl, hb, hc⟩ := hr.elem Mb.len (by decide) (by omega)
      obtain ⟨b2, off2, blk2, T2, fr2, rfl, hb2, hc2⟩ := hs.elem Mb.len (by decide) (by omega)
      repeat (first | refine VC.seq ?_ | refine VC.block ?_ | refine VC.skip ?_)
      refine VC.loud (Kept F []) [] rfl (by kernel_rfl) (Kept.of0 hm.drew) ?_
      replace hm := hm.drew
      refine VL.pure rfl rfl rfl (p_moveL rfl) ?_
      refine VL.pure rfl rfl rfl (p_moveI rfl) ?_
      refine VL.pure rfl rfl rfl (p_idxN Try.underlying40 Try.sizeOf99 rfl rfl hk') ?_
      refine VL.read rfl rfl rfl (fun w' hw' => r_loadAgg (vs := [.int _ _, .int _ _, .int _ _, .int _ _]) Try.isAgg99 Try.sizeOf99 rfl (hw'.fix _ _ hb) rfl (hc k x hx)) ?_
      refine VL.pure rfl rfl rfl (p_moveL rfl) ?_
      refine VL.pure rfl rfl rfl (p_moveI rfl) ?_
      refine VL.pure rfl rfl rfl (p_idxN Try.underlying40 Try.sizeOf99 rfl rfl hk') ?_
      refine VL.read rfl rfl rfl (fun w' hw' => r_loadAgg (vs := [.int _ _, .int _ _, .int _ _, .int _ _]) Try.isAgg99 Try.sizeOf99 rfl (hw'.fix _ _ hb2) rfl (hc2 k y hy)) ?_
      refine VL.pure rfl rfl rfl (p_neG Try.underlying99 sih99 eqg99 rfl rfl (fields_member x y _ Try.underlying99)) ?_
      refine VL.nil ?_
      skip
      repeat (first | refine VC.seq ?_ | refine VC.block ?_ | refine VC.skip ?_)
      by_cases h2 : x = y
      · refine VC.condF rfl (by rw [decide_eq_true h2]; rfl) ?_
        repeat (first | refine VC.seq ?_ | refine VC.block ?_ | refine VC.skip ?_)
        refine VC.region ?_
        refine VR.pure rfl rfl (p_moveI rfl) ?_
        refine VR.pure rfl rfl (p_add64 rfl rfl (by omega)) ?_
        refine VR.pure rfl rfl (p_assignI rfl) ?_
        refine VR.nil ?_
        exact ⟨k + 1, ⟨rfl, rfl, rfl, trivial⟩, ⟨hm, by omega, same_at hx hy hno h2⟩, by omega⟩
      · refine VC.condT rfl (by rw [decide_eq_false h2]; rfl) ?_
        repeat (first | refine VC.seq ?_ | refine VC.block ?_ | refine VC.skip ?_)
        refine VC.region ?_
        refine VR.pure rfl rfl (p_assignB rfl) ?_
        refine VR.nil ?_
        repeat (first | refine VC.seq ?_ | refine VC.block ?_ | refine VC.skip ?_)
        refine VC.ret ⟨_, ResOf.r1 (v := .bool _) rfl rfl, ?_⟩
        refine ⟨congrArg Value.bool (decide_eq_false (fun e => h2 ?_)).symm, hm⟩
        rw [e, hy] at hx
        exact (Option.some.inj hx).symm
    · repeat (first | refine VC.seq ?_ | refine VC.block ?_ | refine VC.skip ?_)
      refine VC.exit ?_
      repeat (first | refine VC.seq ?_ | refine VC.block ?_ | refine VC.skip ?_)
      refine VC.region ?_
      refine VR.pure rfl rfl (p_assignB rfl) ?_
      refine VR.nil ?_
      repeat (first | refine VC.seq ?_ | refine VC.block ?_ | refine VC.skip ?_)
      refine VC.ret ⟨_, ResOf.r1 (v := .bool _) rfl rfl, ?_⟩
      refine ⟨congrArg Value.bool (decide_eq_true ?_).symm, hm⟩
      rwa [List.take_of_length_le (by omega), List.take_of_length_le (by omega)] at hno

theorem same_ensemble_c {F : Env} {w : World} {Ls : List Blks} {e e' : En} (hm : Mem F w Ls) (hn : e.n ≤ maxLen) (hr : MRow F.heap e.A e.n e.ms) (hs : MRow F.heap e'.A e'.n e'.ms) :
    Calls Try.prog 33 #[.agg #[.int .i64 e.ver, .slice e.A e.n e.c], .agg #[.int .i64 e'.ver, .slice e'.A e'.n e'.c]] w (Ret fun v w' => v = .bool (decide (e.abs = e'.abs)) ∧ Mem F w' Ls) := by
  refine Calls.of_vc Try.func33 rfl Try.ntmps33 rfl ?_
  repeat (first | refine VC.seq ?_ | refine VC.block ?_ | refine VC.skip ?_)
  refine VC.region ?_
  refine VR.new hm rfl rfl (n_boxG rfl) ?_
  intro b2 w hm
  refine VR.new hm rfl rfl (n_boxG rfl) ?_
  intro b3 w hm
  refine VR.pure rfl rfl (p_assignB rfl) ?_
  refine VR.nil ?_
  repeat (first | refine VC.seq ?_ | refine VC.block ?_ | refine VC.skip ?_)
  refine VC.region ?_
  refine VR.pure rfl rfl (p_field (fo := 0) Try.underlying42 rfl Try.sizeOf22 rfl rfl rfl) ?_
  refine VR.val rfl rfl (r_load (v := .int _ _) Try.isAgg22 rfl (hm.at_ 1 0 rfl) rfl) ?_
  refine VR.pure rfl rfl (p_field (fo := 0) Try.underlying42 rfl Try.sizeOf22 rfl rfl rfl) ?_
  refine VR.val rfl rfl (r_load (v := .int _ _) Try.isAgg22 rfl (hm.at_ 0 0 rfl) rfl) ?_
  refine VR.pure rfl rfl (p_eq rfl rfl) ?_
  refine VR.pure rfl rfl (p_moveB rfl) ?_
  refine VR.splitD 10 rfl (fun h => ?_) (fun h => ?_)
  refine VR.pureG rfl rfl (p_field (fo := 1) Try.underlying42 rfl Try.sizeOf40 rfl rfl rfl) ?_
  refine VR.valG rfl rfl (r_load (v := .slice _ _ _) Try.isAgg40 rfl (hm.at_ 1 0 rfl) rfl) ?_
  refine VR.pureG rfl rfl (p_field (fo := 1) Try.underlying42 rfl Try.sizeOf40 rfl rfl rfl) ?_
  refine VR.valG rfl rfl (r_load (v := .slice _ _ _) Try.isAgg40 rfl (hm.at_ 0 0 rfl) rfl) ?_
  refine VR.callG rfl rfl (r_call2 Try.call53 rfl rfl) (same_members_c hm.all hn (hr.mono hm.le) (hs.mono hm.le)) ?_
  rintro _ w ⟨rfl, hm'⟩
  replace hm := hm.back0 hm'
  refine VR.pure rfl rfl (p_pickT rfl rfl) ?_
  refine VR.pure rfl rfl (p_assignB rfl) ?_
  refine VR.nil ?_
  rotate_left 1
  refine VR.pass rfl rfl ?_
  refine VR.pass rfl rfl ?_
  refine VR.pass rfl rfl ?_
  refine VR.pass rfl rfl ?_
  refine VR.pass rfl rfl ?_
  refine VR.pure rfl rfl (p_pickF rfl rfl) ?_
  refine VR.pure rfl rfl (p_assignB rfl) ?_
  refine VR.nil ?_
  rotate_left 1
  · repeat (first | refine VC.seq ?_ | refine VC.block ?_ | refine VC.skip ?_)
    refine VC.ret ⟨_, ResOf.r1 (v := .bool _) rfl rfl, ?_⟩
    refine ⟨congrArg Value.bool (decide_eq_decide.2 ?_), hm.pop.pop⟩
    unfold En.abs
    rw [Prod.mk.injEq]
    exact ⟨fun h' => ⟨h, h'⟩, fun h' => h'.2⟩
  · repeat (first | refine VC.seq ?_ | refine VC.block ?_ | refine VC.skip ?_)
    refine VC.ret ⟨_, ResOf.r1 (v := .bool _) rfl rfl, ?_⟩
    refine ⟨congrArg Value.bool (decide_eq_false ?_).symm, hm.pop.pop⟩
    unfold En.abs
    rw [Prod.mk.injEq]
    exact fun h' => h h'.1

theorem get_of {α : Type} {xs : List α} {k : Nat} (h : k < xs.length) : ∃ x, xs[k]? = some x ∧ x ∈ xs := ⟨xs[k], List.getElem?_eq_getElem h, List.getElem_mem h⟩

theorem sum_le {es : List En} {k : Nat} {e : En} (h : es[k]? = some e) : ((es.take (k + 1)).map En.n).sum = ((es.take k).map En.n).sum + e.n := by
  rw [List.take_add_one, h]
  simp

end Go.Bd
