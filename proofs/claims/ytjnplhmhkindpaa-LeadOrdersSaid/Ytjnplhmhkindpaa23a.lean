/- Contracts of layer 23: clones of members, what a config may be, the next config, what binds. Conditions: as each states. -/
import Derived.Test.YtjnplhmhkindpaaAgg
import Derived.Test.YtjnplhmhkindpaaFacts
namespace Go.Bd
open Go.Proofs
set_option linter.unusedVariables false

structure Mb where
  id : Int
  role : Int
  weight : Int
  group : Int
deriving DecidableEq
def Mb.cells (m : Mb) : List Value := [.int .i64 m.id, .int .u8 m.role, .int .i64 m.weight, .int .i64 m.group]
theorem Mb.len (m : Mb) : m.cells.length = 4 := rfl
abbrev mcells (ms : List Mb) : List Value := ms.flatMap Mb.cells
theorem mcells_one (ms : List Mb) : ∀ u ∈ mcells ms, u.oneCell' = true := by
  intro u hu
  obtain ⟨m, _, hm⟩ := List.mem_flatMap.1 hu
  simp only [Mb.cells, List.mem_cons, List.not_mem_nil, or_false] at hm
  rcases hm with rfl | rfl | rfl | rfl <;> rfl
abbrev MRow (H : Nat → Option Obj) (A : Option Addr) (n : Nat) (ms : List Mb) : Prop := Row H A (n * 4) (mcells ms)
theorem MRow.len {H : Nat → Option Obj} {A : Option Addr} {n : Nat} {ms : List Mb} (h : MRow H A n ms) : ms.length = n := Row.count Mb.len (by decide) h

theorem clone_c {F : Env} {w : World} {Ls : List Blks} {A : Option Addr} {n c : Nat} {ms : List Mb} (hm : Mem F w Ls) (hn : n * 32 ≤ 140737488355328) (hr : MRow F.heap A n ms) :
    Calls Try.prog 25 #[.slice A n c] w (Ret fun v w' => ∃ A' c' L, v = .slice A' n c' ∧ OwnS 64 4 A' n c' (mcells ms) L ∧ Mem F w' (L :: Ls)) := by
  refine Calls.of_vc Try.func25 rfl Try.ntmps25 rfl ?_
  repeat (first | refine VC.seq ?_ | refine VC.block ?_ | refine VC.skip ?_)
  refine VC.region ?_
  refine VR.pure rfl rfl (p_assignL rfl) ?_
  refine VR.nil ?_
  repeat (first | refine VC.seq ?_ | refine VC.block ?_ | refine VC.skip ?_)
  refine VC.region ?_
  refine VR.pure rfl rfl (p_moveL rfl) ?_
  refine VR.pure rfl rfl (p_eqNil Try.underlying40 rfl) ?_
  refine VR.nil ?_
  cases A with
  | none =>
    repeat (first | refine VC.seq ?_ | refine VC.block ?_ | refine VC.skip ?_)
    refine VC.condT rfl rfl ?_
    repeat (first | refine VC.seq ?_ | refine VC.block ?_ | refine VC.skip ?_)
    refine VC.region ?_
    refine VR.pure rfl rfl (p_assignL rfl) ?_
    refine VR.nil ?_
    repeat (first | refine VC.seq ?_ | refine VC.block ?_ | refine VC.skip ?_)
    refine VC.ret ⟨_, ResOf.r1 (v := .slice _ _ _) rfl rfl, ?_⟩
    have hn0 : n = 0 := by
      rcases Nat.eq_zero_or_pos n with h0 | h0
      · exact h0
      · obtain ⟨b, off, blk, T, fr, e, _⟩ := hr.get (by omega)
        cases e
    subst hn0
    have hms : ms = [] := List.eq_nil_of_length_eq_zero hr.len
    subst hms
    exact ⟨none, 0, [], rfl, OwnS.nil _ _, hm.nil_⟩
  | some a =>
    repeat (first | refine VC.seq ?_ | refine VC.block ?_ | refine VC.skip ?_)
    refine VC.condF rfl rfl ?_
    repeat (first | refine VC.seq ?_ | refine VC.block ?_ | refine VC.skip ?_)
    refine VC.region ?_
    refine VR.new hm rfl rfl (n_buildSlice0 Try.underlying40 inf64) ?_
    intro g w hm
    refine VR.pure rfl rfl (p_moveL rfl) ?_
    refine VR.append (s := 4) (bytes := 32) Try.underlying40 inf64 rfl rfl rfl rfl rfl rfl rfl rfl rfl hm (OwnS.made (c := 0) (by unfold maxLen; omega) rfl) (hr.mono hm.fix) (mcells_one ms) (Nat.zero_add n) ⟨by unfold maxLen; omega, by omega⟩ ?_
    intro A' c' w' L' ho' hm'
    refine VR.pure rfl rfl (p_assignL rfl) ?_
    refine VR.nil ?_
    repeat (first | refine VC.seq ?_ | refine VC.block ?_ | refine VC.skip ?_)
    refine VC.ret ⟨_, ResOf.r1 (v := .slice _ _ _) rfl rfl, ?_⟩
    exact ⟨A', c', L', rfl, ho', hm'⟩

def mbOk (last : Int) (m : Mb) : Prop := last < m.id ∧ m.id ≤ 7 ∧ (m.role = 2 ∧ m.weight = 0 ∧ m.group = 0 ∨ m.role ≠ 2 ∧ m.role = 1 ∧ 0 ≤ m.weight ∧ m.weight ≤ 1000 ∧ 0 ≤ m.group ∧ m.group < 7)
instance (last : Int) (m : Mb) : Decidable (mbOk last m) := by unfold mbOk; infer_instance

set_option maxHeartbeats 1000000 in
theorem fits_c {F : Env} {w : World} {Ls : List Blks} {b : Nat} {last : Int} {m : Mb} (hm : Mem F w Ls) (hb : F.heap b = some (.cells #[.int .i64 last] 3 (0, 0))) :
    Calls Try.prog 36 #[.agg #[.int .i64 m.id, .int .u8 m.role, .int .i64 m.weight, .int .i64 m.group], .pointer (some ⟨b, 0, none⟩)] w (Ret fun v w' => v = .bool (decide (mbOk last m)) ∧ Mem F w' Ls) := by
  refine Calls.of_vc Try.func36 rfl Try.ntmps36 rfl ?_
  repeat (first | refine VC.seq ?_ | refine VC.block ?_ | refine VC.skip ?_)
  refine VC.region ?_
  refine VR.new hm rfl rfl (n_boxG rfl) ?_
  intro g w hm
  refine VR.pure rfl rfl (p_assignB rfl) ?_
  refine VR.nil ?_
  have hpop := hm.pop
  repeat (first | refine VC.seq ?_ | refine VC.block ?_ | refine VC.skip ?_)
  refine VC.region ?_
  refine VR.pure rfl rfl (p_field (fo := 0) Try.underlying64 rfl Try.sizeOf3 rfl rfl rfl) ?_
  refine VR.val rfl rfl (r_load (v := .int _ _) Try.isAgg3 rfl (hm.at_ 0 0 rfl) rfl) ?_
  refine VR.val rfl rfl (r_load (v := .int _ _) Try.isAgg3 rfl (hm.fix _ _ hb) rfl) ?_
  refine VR.pure rfl rfl (p_le rfl rfl) ?_
  refine VR.pure rfl rfl (p_moveB rfl) ?_
  refine VR.splitD 9 rfl (fun h1 => ?_) (fun h1 => ?_)
  refine VR.pass rfl rfl ?_
  refine VR.pass rfl rfl ?_
  refine VR.pass rfl rfl ?_
  refine VR.pure rfl rfl (p_pickT rfl rfl) ?_
  refine VR.pure rfl rfl (p_assignB rfl) ?_
  refine VR.nil ?_
  rotate_left 1
  refine VR.pureG rfl rfl (p_field (fo := 0) Try.underlying64 rfl Try.sizeOf3 rfl rfl rfl) ?_
  refine VR.valG rfl rfl (r_load (v := .int _ _) Try.isAgg3 rfl (hm.at_ 0 0 rfl) rfl) ?_
  refine VR.pureG rfl rfl (p_gt rfl rfl) ?_
  refine VR.pure rfl rfl (p_pickF rfl rfl) ?_
  refine VR.pure rfl rfl (p_assignB rfl) ?_
  refine VR.nil ?_
  rotate_left 1
  · repeat (first | refine VC.seq ?_ | refine VC.block ?_ | refine VC.skip ?_)
    refine VC.condT rfl rfl ?_
    repeat (first | refine VC.seq ?_ | refine VC.block ?_ | refine VC.skip ?_)
    refine VC.region ?_
    refine VR.pure rfl rfl (p_assignB rfl) ?_
    refine VR.nil ?_
    repeat (first | refine VC.seq ?_ | refine VC.block ?_ | refine VC.skip ?_)
    refine VC.ret ⟨_, ResOf.r1 (v := .bool _) rfl rfl, ?_⟩
    exact ⟨congrArg Value.bool (decide_eq_false (by unfold mbOk; omega)).symm, hpop⟩
  · repeat (first | refine VC.seq ?_ | refine VC.block ?_ | refine VC.skip ?_)
    refine VC.condD rfl (fun h2 => ?_) (fun h2 => ?_)
    · repeat (first | refine VC.seq ?_ | refine VC.block ?_ | refine VC.skip ?_)
      refine VC.region ?_
      refine VR.pure rfl rfl (p_assignB rfl) ?_
      refine VR.nil ?_
      repeat (first | refine VC.seq ?_ | refine VC.block ?_ | refine VC.skip ?_)
      refine VC.ret ⟨_, ResOf.r1 (v := .bool _) rfl rfl, ?_⟩
      exact ⟨congrArg Value.bool (decide_eq_false (by unfold mbOk; omega)).symm, hpop⟩
    · repeat (first | refine VC.seq ?_ | refine VC.block ?_ | refine VC.skip ?_)
      refine VC.region ?_
      refine VR.pure rfl rfl (p_field (fo := 1) Try.underlying64 rfl Try.sizeOf62 rfl rfl rfl) ?_
      refine VR.val rfl rfl (r_load (v := .int _ _) Try.isAgg62 rfl (hm.at_ 0 0 rfl) rfl) ?_
      refine VR.pure rfl rfl (p_eq rfl rfl) ?_
      refine VR.pure rfl rfl (p_assignB rfl) ?_
      refine VR.nil ?_
      repeat (first | refine VC.seq ?_ | refine VC.block ?_ | refine VC.skip ?_)
      refine VC.condD rfl (fun h3 => ?_) (fun h3 => ?_)
      · repeat (first | refine VC.seq ?_ | refine VC.block ?_ | refine VC.skip ?_)
        refine VC.region ?_
        refine VR.pure rfl rfl (p_field (fo := 2) Try.underlying64 rfl Try.sizeOf3 rfl rfl rfl) ?_
        refine VR.val rfl rfl (r_load (v := .int _ _) Try.isAgg3 rfl (hm.at_ 0 0 rfl) rfl) ?_
        refine VR.pure rfl rfl (p_eq rfl rfl) ?_
        refine VR.pure rfl rfl (p_moveB rfl) ?_
        refine VR.splitD 21 rfl (fun h4 => ?_) (fun h4 => ?_)
        refine VR.pureG rfl rfl (p_field (fo := 3) Try.underlying64 rfl Try.sizeOf3 rfl rfl rfl) ?_
        refine VR.valG rfl rfl (r_load (v := .int _ _) Try.isAgg3 rfl (hm.at_ 0 0 rfl) rfl) ?_
        refine VR.pureG rfl rfl (p_eq rfl rfl) ?_
        refine VR.pure rfl rfl (p_pickT rfl rfl) ?_
        refine VR.pure rfl rfl (p_assignB rfl) ?_
        refine VR.nil ?_
        rotate_left 1
        refine VR.pass rfl rfl ?_
        refine VR.pass rfl rfl ?_
        refine VR.pass rfl rfl ?_
        refine VR.pure rfl rfl (p_pickF rfl rfl) ?_
        refine VR.pure rfl rfl (p_assignB rfl) ?_
        refine VR.nil ?_
        rotate_left 1
        all_goals
          repeat (first | refine VC.seq ?_ | refine VC.block ?_ | refine VC.skip ?_)
          refine VC.ret ⟨_, ResOf.r1 (v := .bool _) rfl rfl, ?_⟩
          first
            | exact ⟨congrArg Value.bool (decide_eq_false (by unfold mbOk; omega)).symm, hpop⟩
            | exact ⟨congrArg Value.bool (decide_eq_decide.2 (by unfold mbOk; omega)), hpop⟩
      · repeat (first | refine VC.seq ?_ | refine VC.block ?_ | refine VC.skip ?_)
        refine VC.region ?_
        refine VR.pure rfl rfl (p_field (fo := 1) Try.underlying64 rfl Try.sizeOf62 rfl rfl rfl) ?_
        refine VR.val rfl rfl (r_load (v := .int _ _) Try.isAgg62 rfl (hm.at_ 0 0 rfl) rfl) ?_
        refine VR.pure rfl rfl (p_eq rfl rfl) ?_
        refine VR.pure rfl rfl (p_moveB rfl) ?_
        refine VR.splitD 29 rfl (fun h4 => ?_) (fun h4 => ?_)
        refine VR.pureG rfl rfl (p_field (fo := 2) Try.underlying64 rfl Try.sizeOf3 rfl rfl rfl) ?_
        refine VR.valG rfl rfl (r_load (v := .int _ _) Try.isAgg3 rfl (hm.at_ 0 0 rfl) rfl) ?_
        refine VR.pureG rfl rfl (p_ge rfl rfl) ?_
        refine VR.pure rfl rfl (p_pickT rfl rfl) ?_
        refine VR.pure rfl rfl (p_moveB rfl) ?_
        refine VR.splitB 34 rfl (fun h5 => ?_) (fun h5 => ?_)
        refine VR.pureG rfl rfl (p_field (fo := 2) Try.underlying64 rfl Try.sizeOf3 rfl rfl rfl) ?_
        refine VR.valG rfl rfl (r_load (v := .int _ _) Try.isAgg3 rfl (hm.at_ 0 0 rfl) rfl) ?_
        refine VR.pureG rfl rfl (p_le rfl rfl) ?_
        refine VR.pure rfl rfl (p_pickT rfl rfl) ?_
        refine VR.pure rfl rfl (p_moveB rfl) ?_
        refine VR.splitB 39 rfl (fun h6 => ?_) (fun h6 => ?_)
        refine VR.pureG rfl rfl (p_field (fo := 3) Try.underlying64 rfl Try.sizeOf3 rfl rfl rfl) ?_
        refine VR.valG rfl rfl (r_load (v := .int _ _) Try.isAgg3 rfl (hm.at_ 0 0 rfl) rfl) ?_
        refine VR.pureG rfl rfl (p_ge rfl rfl) ?_
        refine VR.pure rfl rfl (p_pickT rfl rfl) ?_
        refine VR.pure rfl rfl (p_moveB rfl) ?_
        refine VR.splitB 44 rfl (fun h7 => ?_) (fun h7 => ?_)
        refine VR.pureG rfl rfl (p_field (fo := 3) Try.underlying64 rfl Try.sizeOf3 rfl rfl rfl) ?_
        refine VR.valG rfl rfl (r_load (v := .int _ _) Try.isAgg3 rfl (hm.at_ 0 0 rfl) rfl) ?_
        refine VR.pureG rfl rfl (p_lt rfl rfl) ?_
        refine VR.pure rfl rfl (p_pickT rfl rfl) ?_
        refine VR.pure rfl rfl (p_assignB rfl) ?_
        refine VR.nil ?_
        rotate_left 1
        refine VR.pass rfl rfl ?_
        refine VR.pass rfl rfl ?_
        refine VR.pass rfl rfl ?_
        refine VR.pure rfl rfl (p_pickF rfl rfl) ?_
        refine VR.pure rfl rfl (p_assignB rfl) ?_
        refine VR.nil ?_
        rotate_left 1
        refine VR.pass rfl rfl ?_
        refine VR.pass rfl rfl ?_
        refine VR.pass rfl rfl ?_
        refine VR.pure rfl rfl (p_pickF rfl rfl) ?_
        refine VR.pure rfl rfl (p_moveB rfl) ?_
        refine VR.pass rfl rfl ?_
        refine VR.pass rfl rfl ?_
        refine VR.pass rfl rfl ?_
        refine VR.pure rfl rfl (p_pickF rfl rfl) ?_
        refine VR.pure rfl rfl (p_assignB rfl) ?_
        refine VR.nil ?_
        rotate_left 1
        refine VR.pass rfl rfl ?_
        refine VR.pass rfl rfl ?_
        refine VR.pass rfl rfl ?_
        refine VR.pure rfl rfl (p_pickF rfl rfl) ?_
        refine VR.pure rfl rfl (p_moveB rfl) ?_
        refine VR.pass rfl rfl ?_
        refine VR.pass rfl rfl ?_
        refine VR.pass rfl rfl ?_
        refine VR.pure rfl rfl (p_pickF rfl rfl) ?_
        refine VR.pure rfl rfl (p_moveB rfl) ?_
        refine VR.pass rfl rfl ?_
        refine VR.pass rfl rfl ?_
        refine VR.pass rfl rfl ?_
        refine VR.pure rfl rfl (p_pickF rfl rfl) ?_
        refine VR.pure rfl rfl (p_assignB rfl) ?_
        refine VR.nil ?_
        rotate_left 1
        refine VR.pass rfl rfl ?_
        refine VR.pass rfl rfl ?_
        refine VR.pass rfl rfl ?_
        refine VR.pure rfl rfl (p_pickF rfl rfl) ?_
        refine VR.pure rfl rfl (p_moveB rfl) ?_
        refine VR.pass rfl rfl ?_
        refine VR.pass rfl rfl ?_
        refine VR.pass rfl rfl ?_
        refine VR.pure rfl rfl (p_pickF rfl rfl) ?_
        refine VR.pure rfl rfl (p_moveB rfl) ?_
        refine VR.pass rfl rfl ?_
        refine VR.pass rfl rfl ?_
        refine VR.pass rfl rfl ?_
        refine VR.pure rfl rfl (p_pickF rfl rfl) ?_
        refine VR.pure rfl rfl (p_moveB rfl) ?_
        refine VR.pass rfl rfl ?_
        refine VR.pass rfl rfl ?_
        refine VR.pass rfl rfl ?_
        refine VR.pure rfl rfl (p_pickF rfl rfl) ?_
        refine VR.pure rfl rfl (p_assignB rfl) ?_
        refine VR.nil ?_
        rotate_left 1
        all_goals
          repeat (first | refine VC.seq ?_ | refine VC.block ?_ | refine VC.skip ?_)
          refine VC.ret ⟨_, ResOf.r1 (v := .bool _) rfl rfl, ?_⟩
          simp only [decide_eq_true_eq, decide_eq_false_iff_not] at *
          first
            | exact ⟨congrArg Value.bool (decide_eq_false (by unfold mbOk; omega)).symm, hpop⟩
            | exact ⟨congrArg Value.bool (decide_eq_decide.2 (by unfold mbOk; omega)), hpop⟩

/-- The weight of members that rise, from a last number and a weight on; none where one may not be. -/
def chkGo (last wt : Int) : List Mb → Option Int
  | [] => some wt
  | m :: r => if mbOk last m then chkGo m.id (wt + m.weight) r else none
def checkE (ver : Int) (ms : List Mb) : Int :=
  if 7 < ms.length then 3
  else match chkGo 0 0 ms with
    | none => 140
    | some wt => if wt = 0 ∨ ver < 0 ∨ 4611686018427387904 < ver then 140 else 0

theorem chkGo_cons (last wt : Int) (m : Mb) (r : List Mb) : chkGo last wt (m :: r) = if mbOk last m then chkGo m.id (wt + m.weight) r else none := rfl
theorem chkGo_nil (last wt : Int) : chkGo last wt [] = some wt := rfl
theorem drop_mb {ms : List Mb} {k : Nat} (h : k < ms.length) : ∃ m, ms[k]? = some m ∧ ms.drop k = m :: ms.drop (k + 1) :=
  ⟨ms[k], List.getElem?_eq_getElem h, List.drop_eq_getElem_cons h⟩

set_option maxHeartbeats 1000000 in
theorem check_c {F : Env} {w : World} {Ls : List Blks} {A : Option Addr} {n c : Nat} {ms : List Mb} {ver : Int} (hm : Mem F w Ls) (hn : n ≤ maxLen) (hr : MRow F.heap A n ms) :
    Calls Try.prog 24 #[.agg #[.int .i64 ver, .slice A n c]] w (Ret fun v w' => v = .int .i64 (checkE ver ms) ∧ Mem F w' Ls) := by
  have hl := hr.len
  unfold maxLen at hn
  refine Calls.of_vc Try.func24 rfl Try.ntmps24 rfl ?_
  repeat (first | refine VC.seq ?_ | refine VC.block ?_ | refine VC.skip ?_)
  refine VC.region ?_
  refine VR.new hm rfl rfl (n_boxG rfl) ?_
  intro b1 w hm
  refine VR.pure rfl rfl (p_assignI rfl) ?_
  refine VR.nil ?_
  repeat (first | refine VC.seq ?_ | refine VC.block ?_ | refine VC.skip ?_)
  refine VC.region ?_
  refine VR.pure rfl rfl (p_field (fo := 1) Try.underlying54 rfl Try.sizeOf40 rfl rfl rfl) ?_
  refine VR.val rfl rfl (r_load (v := .slice _ _ _) Try.isAgg40 rfl (hm.at_ 0 0 rfl) rfl) ?_
  refine VR.pure rfl rfl (p_len Try.underlying40 rfl) ?_
  refine VR.pure rfl rfl (p_gt rfl rfl) ?_
  refine VR.nil ?_
  repeat (first | refine VC.seq ?_ | refine VC.block ?_ | refine VC.skip ?_)
  refine VC.condD rfl (fun h => ?_) (fun h => ?_)
  · repeat (first | refine VC.seq ?_ | refine VC.block ?_ | refine VC.skip ?_)
    refine VC.region ?_
    refine VR.pure rfl rfl (p_assignI rfl) ?_
    refine VR.nil ?_
    repeat (first | refine VC.seq ?_ | refine VC.block ?_ | refine VC.skip ?_)
    refine VC.ret ⟨_, ResOf.r1 (v := .int _ _) rfl rfl, ?_⟩
    refine ⟨?_, hm.pop⟩
    unfold checkE
    rw [if_pos (by omega)]
  · have hn7 : n ≤ 7 := by omega
    repeat (first | refine VC.seq ?_ | refine VC.block ?_ | refine VC.skip ?_)
    refine VC.region ?_
    refine VR.new hm rfl rfl (n_alloc1 Try.zeroValue3 rfl) ?_
    intro b3 w hm
    refine VR.store (cs' := #[.int .i64 0]) (v := .int _ _) Try.sizeOf3 rfl rfl rfl rfl rfl hm 0 0 rfl (Nat.ble_eq.mp rfl) rfl ?_
    intro w hm
    refine VR.pure rfl rfl (p_assignI rfl) ?_
    refine VR.nil ?_
    repeat (first | refine VC.seq ?_ | refine VC.block ?_ | refine VC.skip ?_)
    refine VC.region ?_
    refine VR.pure rfl rfl (p_makeFunc (vs := []) (cs := [.pointer _]) rfl rfl) ?_
    refine VR.pure rfl rfl (p_assignF rfl) ?_
    refine VR.nil ?_
    repeat (first | refine VC.seq ?_ | refine VC.block ?_ | refine VC.skip ?_)
    refine VC.region ?_
    refine VR.pure rfl rfl (p_field (fo := 1) Try.underlying54 rfl Try.sizeOf40 rfl rfl rfl) ?_
    refine VR.val rfl rfl (r_load (v := .slice _ _ _) Try.isAgg40 rfl (hm.at_ 1 0 rfl) rfl) ?_
    refine VR.pure rfl rfl (p_len Try.underlying40 rfl) ?_
    refine VR.pure rfl rfl (p_moveI rfl) ?_
    refine VR.nil ?_
    repeat (first | refine VC.seq ?_ | refine VC.block ?_ | refine VC.skip ?_)
    refine VC.loop (σ := Nat × Int × Int) (fun s => [(1, .pointer (some ⟨b1, 0, none⟩)), (3, .pointer (some ⟨b3, 0, none⟩)), (4, .int .i64 s.2.2), (5, .func (.func 36) #[] #[.pointer (some ⟨b3, 0, none⟩)]), (14, .slice A n c), (15, .int .i64 n), (16, .int .i64 s.1)])
      (fun s w => Mem F w ([(b3, .cells #[.int .i64 s.2.1] 3 (0, 0))] :: [(b1, .cells #[.int .i64 ver, .slice A n c] 54 (0, 0))] :: Ls) ∧ s.1 ≤ n ∧ chkGo 0 0 ms = chkGo s.2.1 s.2.2 (ms.drop s.1) ∧ 0 ≤ s.2.2 ∧ s.2.2 ≤ 1000 * s.1)
      (fun s => n - s.1) (0, 0, 0) ⟨rfl, rfl, rfl, rfl, rfl, rfl, rfl, trivial⟩ ⟨hm, by omega, rfl, by simp, by simp⟩ ?_
    rintro ⟨k, last, wt⟩ A' w ⟨hm, hk, hgo, hw0, hw1⟩
    dsimp only at hm hk hgo hw0 hw1 ⊢
    repeat (first | refine VC.seq ?_ | refine VC.block ?_ | refine VC.skip ?_)
    refine VC.region ?_
    refine VR.pure rfl rfl (p_lt rfl rfl) ?_
    refine VR.nil ?_
    repeat (first | refine VC.seq ?_ | refine VC.block ?_ | refine VC.skip ?_)
    refine VC.condD rfl (fun h2 => ?_) (fun h2 => ?_)
    · have hk' : k < n := by omega
      obtain ⟨m, hmk, hdrop⟩ := drop_mb (ms := ms) (k := k) (by omega)
      obtain ⟨b, off, blk, T, fr, rfl, hb, hcc⟩ := hr.elem Mb.len (by decide) (by omega)
      repeat (first | refine VC.seq ?_ | refine VC.block ?_ | refine VC.skip ?_)
      refine VC.region ?_
      refine VR.pure rfl rfl (p_idxN Try.underlying40 Try.sizeOf64 rfl rfl hk') ?_
      refine VR.val rfl rfl (r_loadAgg (vs := [.int _ _, .int _ _, .int _ _, .int _ _]) Try.isAgg64 Try.sizeOf64 rfl (hm.fix _ _ hb) rfl (hcc k m hmk)) ?_
      refine VR.new hm rfl rfl (n_allocG Try.zeroValue64) ?_
      intro b7 w hm
      refine VR.store (cs' := #[.int .i64 m.id, .int .u8 m.role, .int .i64 m.weight, .int .i64 m.group]) (v := .agg _) Try.sizeOf64 rfl rfl rfl rfl rfl hm 0 0 rfl (Nat.ble_eq.mp rfl) rfl ?_
      intro w hm
      refine VR.nil ?_
      repeat (first | refine VC.seq ?_ | refine VC.block ?_ | refine VC.skip ?_)
      refine VC.region ?_
      refine VR.pure rfl rfl (p_moveF rfl) ?_
      refine VR.val rfl rfl (r_loadAgg (vs := [.int _ _, .int _ _, .int _ _, .int _ _]) Try.isAgg64 Try.sizeOf64 rfl (hm.at_ 0 0 rfl) rfl (agg_at rfl)) ?_
      refine VR.call rfl rfl (r_callV Try.call36 rfl rfl) (fits_c (last := last) (m := m) hm.all (hm.plus_at 1 0 rfl)) ?_
      rintro _ w ⟨rfl, hm'⟩
      replace hm := hm.back0 hm'
      refine VR.pure rfl rfl (p_notD rfl) ?_
      refine VR.nil ?_
      rw [hdrop, chkGo_cons] at hgo
      repeat (first | refine VC.seq ?_ | refine VC.block ?_ | refine VC.skip ?_)
      refine VC.condD rfl (fun h3 => ?_) (fun h3 => ?_)
      · repeat (first | refine VC.seq ?_ | refine VC.block ?_ | refine VC.skip ?_)
        refine VC.region ?_
        refine VR.pure rfl rfl (p_assignI rfl) ?_
        refine VR.nil ?_
        repeat (first | refine VC.seq ?_ | refine VC.block ?_ | refine VC.skip ?_)
        refine VC.ret ⟨_, ResOf.r1 (v := .int _ _) rfl rfl, ?_⟩
        refine ⟨?_, hm.pop.pop.pop⟩
        rw [if_neg h3] at hgo
        unfold checkE
        rw [if_neg (by omega), hgo]
      · have h4 : mbOk last m := Classical.not_not.1 h3
        rw [if_pos h4] at hgo
        have h5 : 0 ≤ m.weight ∧ m.weight ≤ 1000 := by unfold mbOk at h4; omega
        repeat (first | refine VC.seq ?_ | refine VC.block ?_ | refine VC.skip ?_)
        refine VC.region ?_
        refine VR.pure rfl rfl (p_field (fo := 0) Try.underlying64 rfl Try.sizeOf3 rfl rfl rfl) ?_
        refine VR.val rfl rfl (r_load (v := .int _ _) Try.isAgg3 rfl (hm.at_ 0 0 rfl) rfl) ?_
        refine VR.store (cs' := #[.int .i64 m.id]) (v := .int _ _) Try.sizeOf3 rfl rfl rfl rfl rfl hm 1 0 rfl (Nat.ble_eq.mp rfl) rfl ?_
        intro w hm
        refine VR.nil ?_
        repeat (first | refine VC.seq ?_ | refine VC.block ?_ | refine VC.skip ?_)
        refine VC.region ?_
        refine VR.pure rfl rfl (p_moveI rfl) ?_
        refine VR.pure rfl rfl (p_field (fo := 2) Try.underlying64 rfl Try.sizeOf3 rfl rfl rfl) ?_
        refine VR.val rfl rfl (r_load (v := .int _ _) Try.isAgg3 rfl (hm.at_ 0 0 rfl) rfl) ?_
        refine VR.pure rfl rfl (p_add64 rfl rfl (by omega)) ?_
        refine VR.pure rfl rfl (p_assignI rfl) ?_
        refine VR.nil ?_
        repeat (first | refine VC.seq ?_ | refine VC.block ?_ | refine VC.skip ?_)
        refine VC.region ?_
        refine VR.pure rfl rfl (p_add64 rfl rfl (by omega)) ?_
        refine VR.pure rfl rfl (p_moveI rfl) ?_
        refine VR.nil ?_
        exact ⟨(k + 1, m.id, wt + m.weight), ⟨rfl, rfl, rfl, rfl, rfl, rfl, rfl, trivial⟩, ⟨hm.pop, by simp only; omega, hgo, by simp only; omega, by simp only; omega⟩, by simp only; omega⟩
    · repeat (first | refine VC.seq ?_ | refine VC.block ?_ | refine VC.skip ?_)
      refine VC.exit ?_
      obtain rfl : k = n := by omega
      rw [List.drop_of_length_le (by omega), chkGo_nil] at hgo
      have hfin : checkE ver ms = if wt = 0 ∨ ver < 0 ∨ 4611686018427387904 < ver then 140 else 0 := by
        unfold checkE
        rw [if_neg (by omega), hgo]
      repeat (first | refine VC.seq ?_ | refine VC.block ?_ | refine VC.skip ?_)
      refine VC.region ?_
      refine VR.pure rfl rfl (p_moveI rfl) ?_
      refine VR.pure rfl rfl (p_eq rfl rfl) ?_
      refine VR.pure rfl rfl (p_moveB rfl) ?_
      refine VR.splitD 33 rfl (fun h4 => ?_) (fun h4 => ?_)
      refine VR.pass rfl rfl ?_
      refine VR.pass rfl rfl ?_
      refine VR.pass rfl rfl ?_
      refine VR.pure rfl rfl (p_pickT rfl rfl) ?_
      refine VR.pure rfl rfl (p_moveB rfl) ?_
      refine VR.pass rfl rfl ?_
      refine VR.pass rfl rfl ?_
      refine VR.pass rfl rfl ?_
      refine VR.pure rfl rfl (p_pickT rfl rfl) ?_
      refine VR.nil ?_
      rotate_left 1
      refine VR.pureG rfl rfl (p_field (fo := 0) Try.underlying54 rfl Try.sizeOf22 rfl rfl rfl) ?_
      refine VR.valG rfl rfl (r_load (v := .int _ _) Try.isAgg22 rfl (hm.at_ 1 0 rfl) rfl) ?_
      refine VR.pureG rfl rfl (p_lt rfl rfl) ?_
      refine VR.pure rfl rfl (p_pickF rfl rfl) ?_
      refine VR.pure rfl rfl (p_moveB rfl) ?_
      refine VR.splitD 38 rfl (fun h5 => ?_) (fun h5 => ?_)
      refine VR.pass rfl rfl ?_
      refine VR.pass rfl rfl ?_
      refine VR.pass rfl rfl ?_
      refine VR.pure rfl rfl (p_pickT rfl rfl) ?_
      refine VR.nil ?_
      rotate_left 1
      refine VR.pureG rfl rfl (p_field (fo := 0) Try.underlying54 rfl Try.sizeOf22 rfl rfl rfl) ?_
      refine VR.valG rfl rfl (r_load (v := .int _ _) Try.isAgg22 rfl (hm.at_ 1 0 rfl) rfl) ?_
      refine VR.pureG rfl rfl (p_gt rfl rfl) ?_
      refine VR.pure rfl rfl (p_pickF rfl rfl) ?_
      refine VR.nil ?_
      rotate_left 1
      · repeat (first | refine VC.seq ?_ | refine VC.block ?_ | refine VC.skip ?_)
        refine VC.condT rfl rfl ?_
        repeat (first | refine VC.seq ?_ | refine VC.block ?_ | refine VC.skip ?_)
        refine VC.region ?_
        refine VR.pure rfl rfl (p_assignI rfl) ?_
        refine VR.nil ?_
        repeat (first | refine VC.seq ?_ | refine VC.block ?_ | refine VC.skip ?_)
        refine VC.ret ⟨_, ResOf.r1 (v := .int _ _) rfl rfl, ?_⟩
        refine ⟨?_, hm.pop.pop⟩
        rw [hfin, if_pos (.inl h4)]
      · repeat (first | refine VC.seq ?_ | refine VC.block ?_ | refine VC.skip ?_)
        refine VC.condT rfl rfl ?_
        repeat (first | refine VC.seq ?_ | refine VC.block ?_ | refine VC.skip ?_)
        refine VC.region ?_
        refine VR.pure rfl rfl (p_assignI rfl) ?_
        refine VR.nil ?_
        repeat (first | refine VC.seq ?_ | refine VC.block ?_ | refine VC.skip ?_)
        refine VC.ret ⟨_, ResOf.r1 (v := .int _ _) rfl rfl, ?_⟩
        refine ⟨?_, hm.pop.pop⟩
        rw [hfin, if_pos (.inr (.inl h5))]
      · repeat (first | refine VC.seq ?_ | refine VC.block ?_ | refine VC.skip ?_)
        refine VC.condD rfl (fun h6 => ?_) (fun h6 => ?_)
        · repeat (first | refine VC.seq ?_ | refine VC.block ?_ | refine VC.skip ?_)
          refine VC.region ?_
          refine VR.pure rfl rfl (p_assignI rfl) ?_
          refine VR.nil ?_
          repeat (first | refine VC.seq ?_ | refine VC.block ?_ | refine VC.skip ?_)
          refine VC.ret ⟨_, ResOf.r1 (v := .int _ _) rfl rfl, ?_⟩
          refine ⟨?_, hm.pop.pop⟩
          rw [hfin, if_pos (.inr (.inr h6))]
        · repeat (first | refine VC.seq ?_ | refine VC.block ?_ | refine VC.skip ?_)
          refine VC.region ?_
          refine VR.pure rfl rfl (p_assignI rfl) ?_
          refine VR.nil ?_
          repeat (first | refine VC.seq ?_ | refine VC.block ?_ | refine VC.skip ?_)
          refine VC.ret ⟨_, ResOf.r1 (v := .int _ _) rfl rfl, ?_⟩
          refine ⟨?_, hm.pop.pop⟩
          rw [hfin, if_neg (by omega)]

/-- What the next config comes to: 0, or why there is none. -/
def makeCode (now from_ ver : Int) (ms : List Mb) : Int :=
  if from_ ≠ 0 ∧ from_ ≠ now then 212 else if checkE ver ms ≠ 0 then 140 else 0

end Go.Bd
