/- Contracts of layer 10: links. Conditions: as each states. -/
import Derived.Test.YtfaihpikeagpcaaQue
import Derived.Test.YtfaihpikeagpcaaFacts
namespace Go.Bd
open Go.Proofs
set_option linter.unusedVariables false
set_option maxRecDepth 20000

/-- Bytes as they lie. -/
structure Bs where
  A : Option Addr
  n : Nat
  c : Nat
  bs : List Int
def Bs.cells (b : Bs) : List Value := [.slice b.A b.n b.c]
theorem Bs.len (b : Bs) : b.cells.length = 1 := rfl
abbrev bytes (l : List Int) : List Value := l.map (Value.int .u8)
abbrev BRow (H : Nat → Option Obj) (A : Option Addr) (n : Nat) (l : List Int) : Prop := Row H A n (bytes l)
theorem bytes_one (l : List Int) : ∀ u ∈ bytes l, u.oneCell' = true := by
  intro u hu
  obtain ⟨x, _, rfl⟩ := List.mem_map.1 hu
  rfl
theorem BRow.len {H : Nat → Option Obj} {A : Option Addr} {n : Nat} {l : List Int} (h : BRow H A n l) : l.length = n := by
  have := Row.len h
  rwa [List.length_map] at this
abbrev bcells (ws : List Bs) : List Value := ws.flatMap Bs.cells
theorem bcells_one (ws : List Bs) : ∀ u ∈ bcells ws, u.oneCell' = true := by
  intro u hu
  obtain ⟨m, _, hm⟩ := List.mem_flatMap.1 hu
  simp only [Bs.cells, List.mem_cons, List.not_mem_nil, or_false] at hm
  subst hm
  rfl
def BsOk (H : Nat → Option Obj) (b : Bs) : Prop := BRow H b.A b.n b.bs ∧ b.n ≤ 1048476

theorem cloneP_c {F : Env} {w : World} {Ls : List Blks} {A : Option Addr} {n c : Nat} {l : List Int} (hm : Mem F w Ls) (hn : n ≤ 140737488355328) (hr : BRow (F.plus Ls).heap A n l) :
    Calls Try.prog 33 #[.slice A n c] w (Ret fun v w' => ∃ A' c' L, v = .slice A' n c' ∧ OwnS 5 1 A' n c' (bytes l) L ∧ Mem F w' (L :: Ls)) := by
  have hr1 : Row (F.plus Ls).heap A (n * 1) (bytes l) := by rw [Nat.mul_one]; exact hr
  refine Calls.of_vc Try.func33 rfl Try.ntmps33 rfl ?_
  repeat (first | refine VC.seq ?_ | refine VC.block ?_ | refine VC.skip ?_)
  refine VC.region ?_
  refine VR.pure rfl rfl (p_assignL rfl) ?_
  refine VR.nil ?_
  repeat (first | refine VC.seq ?_ | refine VC.block ?_ | refine VC.skip ?_)
  refine VC.region ?_
  refine VR.pure rfl rfl (p_moveL rfl) ?_
  refine VR.pure rfl rfl (p_eqNil Try.underlying22 rfl) ?_
  refine VR.nil ?_
  cases A with
  | none =>
    repeat (first | refine VC.seq ?_ | refine VC.block ?_ | refine VC.skip ?_)
    refine VC.condT rfl rfl ?_
    repeat (first | refine VC.seq ?_ | refine VC.block ?_ | refine VC.skip ?_)
    refine VC.region ?_
    refine VR.pure rfl rfl (p_assignL rfl) ?_
    refine VR.nil ?_
    repeat (first | refine VC.seq ?_ | refine VC.block ?_ | refine VC.skip ?_)
    refine VC.ret ⟨_, ResOf.r1 (v := .slice _ _ _) rfl rfl, ?_⟩
    have hn0 : n = 0 := by
      rcases Nat.eq_zero_or_pos n with h0 | h0
      · exact h0
      · obtain ⟨b, off, blk, T, fr, e, _⟩ := Row.get hr h0
        cases e
    subst hn0
    have hms : l = [] := List.eq_nil_of_length_eq_zero hr.len
    subst hms
    exact ⟨none, 0, [], rfl, OwnS.nil _ _, hm.nil_⟩
  | some a =>
    repeat (first | refine VC.seq ?_ | refine VC.block ?_ | refine VC.skip ?_)
    refine VC.condF rfl rfl ?_
    repeat (first | refine VC.seq ?_ | refine VC.block ?_ | refine VC.skip ?_)
    refine VC.region ?_
    refine VR.new hm rfl rfl (n_buildSlice0 Try.underlying22 inf5) ?_
    intro g w hm
    refine VR.pure rfl rfl (p_moveL rfl) ?_
    refine VR.append (s := 1) (bytes := 1) Try.underlying22 inf5 rfl rfl rfl rfl rfl rfl rfl rfl rfl hm (OwnS.made (c := 0) (by unfold maxLen; omega) rfl) (hr1.mono hm.pop.all.fix) (bytes_one l) (Nat.zero_add n) ⟨by unfold maxLen; omega, by omega⟩ ?_
    intro A' c' w' L' ho' hm'
    refine VR.pure rfl rfl (p_assignL rfl) ?_
    refine VR.nil ?_
    repeat (first | refine VC.seq ?_ | refine VC.block ?_ | refine VC.skip ?_)
    refine VC.ret ⟨_, ResOf.r1 (v := .slice _ _ _) rfl rfl, ?_⟩
    exact ⟨A', c', L', rfl, ho', hm'⟩
theorem cloneB_c {F : Env} {w : World} {Ls : List Blks} {A : Option Addr} {n c : Nat} {l : List Int} (hm : Mem F w Ls) (hn : n ≤ 140737488355328) (hr : BRow F.heap A n l) :
    Calls Try.prog 33 #[.slice A n c] w (Ret fun v w' => ∃ A' c' L, v = .slice A' n c' ∧ OwnS 5 1 A' n c' (bytes l) L ∧ Mem F w' (L :: Ls)) :=
  cloneP_c hm hn (hr.mono hm.le)

/-- A link, by what it holds. -/
structure Lk where
  inc : Int
  peer : Int
  acked : Int
  got : Int
  wait : List (List Int)
deriving DecidableEq
/-- How it lies: its five cells, and the array of its loads. -/
def LkAt (H : Nat → Option Obj) (k : Lk) (cs : Array Value) (L : Blks) : Prop :=
  ∃ A n c ws, cs = #[.int .i64 k.inc, .int .i64 k.peer, .int .i64 k.acked, .int .i64 k.got, .slice A n c] ∧ OwnO 22 1 A n c (bcells ws) L ∧ ws.map Bs.bs = k.wait ∧ ∀ b ∈ ws, BsOk H b
theorem LkAt.mono {H K : Nat → Option Obj} {k : Lk} {cs : Array Value} {L : Blks} (h : LkAt H k cs L) (hle : ∀ b o, H b = some o → K b = some o) : LkAt K k cs L := by
  obtain ⟨A, n, c, ws, h1, h2, h3, h4⟩ := h
  exact ⟨A, n, c, ws, h1, h2, h3, fun b hb => ⟨(h4 b hb).1.mono hle, (h4 b hb).2⟩⟩
theorem bcells_len {A : Option Addr} {n c : Nat} {ws : List Bs} {L : Blks} (h : OwnO 22 1 A n c (bcells ws) L) : ws.length = n := by
  have := h.1
  rw [flat_len Bs.len] at this
  omega

theorem there_none {w : World} : Calls Try.prog 32 #[.pointer none] w (Ret fun v w' => v = .bool false ∧ w' = w) := by
  refine Calls.of_vc Try.func32 rfl Try.ntmps32 rfl ?_
  repeat (first | refine VC.seq ?_ | refine VC.block ?_ | refine VC.skip ?_)
  refine VC.region ?_
  refine VR.pure rfl rfl (p_assignB rfl) ?_
  refine VR.nil ?_
  repeat (first | refine VC.seq ?_ | refine VC.block ?_ | refine VC.skip ?_)
  refine VC.region ?_
  refine VR.pure rfl rfl (p_moveP rfl) ?_
  refine VR.pure rfl rfl (p_neNilP Try.underlying26 rfl) ?_
  refine VR.pure rfl rfl (p_moveB rfl) ?_
  refine VR.knownF 5 rfl rfl ?_
  refine VR.pass rfl rfl ?_
  refine VR.pass rfl rfl ?_
  refine VR.pass rfl rfl ?_
  refine VR.pass rfl rfl ?_
  refine VR.pass rfl rfl ?_
  refine VR.pure rfl rfl (p_pickF rfl rfl) ?_
  refine VR.pure rfl rfl (p_assignB rfl) ?_
  refine VR.nil ?_
  repeat (first | refine VC.seq ?_ | refine VC.block ?_ | refine VC.skip ?_)
  refine VC.ret ⟨_, ResOf.r1 (v := .bool _) rfl rfl, ?_⟩
  exact ⟨rfl, rfl⟩
theorem there_c {F : Env} {w : World} {Ls : List Blks} {g : Nat} {inc peer acked got : Int} {A : Option Addr} {n c : Nat} (hm : Mem F w ([(g, .cells #[.int .i64 inc, .int .i64 peer, .int .i64 acked, .int .i64 got, .slice A n c] 33 (0, 0))] :: Ls)) :
    Calls Try.prog 32 #[.pointer (some ⟨g, 0, none⟩)] w (Ret fun v w' => v = .bool (decide (0 < inc)) ∧ w' = w) := by
  refine Calls.of_vc Try.func32 rfl Try.ntmps32 rfl ?_
  repeat (first | refine VC.seq ?_ | refine VC.block ?_ | refine VC.skip ?_)
  refine VC.region ?_
  refine VR.pure rfl rfl (p_assignB rfl) ?_
  refine VR.nil ?_
  repeat (first | refine VC.seq ?_ | refine VC.block ?_ | refine VC.skip ?_)
  refine VC.region ?_
  refine VR.pure rfl rfl (p_moveP rfl) ?_
  refine VR.pure rfl rfl (p_neNilP Try.underlying26 rfl) ?_
  refine VR.pure rfl rfl (p_moveB rfl) ?_
  refine VR.knownT 5 rfl rfl ?_
  refine VR.pureG rfl rfl (p_moveP rfl) ?_
  refine VR.pureG rfl rfl (p_nilCheck rfl) ?_
  refine VR.pureG rfl rfl (p_field (fo := 0) Try.underlying33 rfl Try.sizeOf3 rfl rfl rfl) ?_
  refine VR.valG rfl rfl (r_load (v := .int _ _) Try.isAgg3 rfl (hm.at_ 0 0 rfl) rfl) ?_
  refine VR.pureG rfl rfl (p_gt rfl rfl) ?_
  refine VR.pure rfl rfl (p_pickT rfl rfl) ?_
  refine VR.pure rfl rfl (p_assignB rfl) ?_
  refine VR.nil ?_
  repeat (first | refine VC.seq ?_ | refine VC.block ?_ | refine VC.skip ?_)
  refine VC.ret ⟨_, ResOf.r1 (v := .bool _) rfl rfl, ?_⟩
  exact ⟨rfl, rfl⟩

theorem new_c {F : Env} {w : World} {Ls : List Blks} {inc : Int} (hm : Mem F w Ls) :
    Calls Try.prog 15 #[.int .i64 inc] w (Ret fun v w' => (1 ≤ inc ∧ inc ≤ 1099511627776 ∧ ∃ g, v = .pointer (some ⟨g, 0, none⟩) ∧ Mem F w' ([(g, .cells #[.int .i64 inc, .int .i64 0, .int .i64 0, .int .i64 0, .slice none 0 0] 33 (0, 0))] :: Ls)) ∨
      (¬ (1 ≤ inc ∧ inc ≤ 1099511627776) ∧ v = .pointer none ∧ Mem F w' Ls)) := by
  refine Calls.of_vc Try.func15 rfl Try.ntmps15 rfl ?_
  repeat (first | refine VC.seq ?_ | refine VC.block ?_ | refine VC.skip ?_)
  refine VC.region ?_
  refine VR.pure rfl rfl (p_assignP rfl) ?_
  refine VR.nil ?_
  repeat (first | refine VC.seq ?_ | refine VC.block ?_ | refine VC.skip ?_)
  refine VC.region ?_
  refine VR.pure rfl rfl (p_moveI rfl) ?_
  refine VR.pure rfl rfl (p_lt rfl rfl) ?_
  refine VR.pure rfl rfl (p_moveB rfl) ?_
  refine VR.splitD 5 rfl (fun h1 => ?_) (fun h1 => ?_)
  refine VR.pass rfl rfl ?_
  refine VR.pass rfl rfl ?_
  refine VR.pure rfl rfl (p_pickT rfl rfl) ?_
  refine VR.nil ?_
  rotate_left 1
  refine VR.pureG rfl rfl (p_moveI rfl) ?_
  refine VR.pureG rfl rfl (p_gt rfl rfl) ?_
  refine VR.pure rfl rfl (p_pickF rfl rfl) ?_
  refine VR.nil ?_
  rotate_left 1
  · repeat (first | refine VC.seq ?_ | refine VC.block ?_ | refine VC.skip ?_)
    refine VC.condT rfl rfl ?_
    repeat (first | refine VC.seq ?_ | refine VC.block ?_ | refine VC.skip ?_)
    refine VC.region ?_
    refine VR.pure rfl rfl (p_assignP rfl) ?_
    refine VR.nil ?_
    repeat (first | refine VC.seq ?_ | refine VC.block ?_ | refine VC.skip ?_)
    refine VC.ret ⟨_, ResOf.r1 (v := .pointer _) rfl rfl, ?_⟩
    exact .inr ⟨by omega, rfl, hm⟩
  · repeat (first | refine VC.seq ?_ | refine VC.block ?_ | refine VC.skip ?_)
    refine VC.condD rfl (fun h2 => ?_) (fun h2 => ?_)
    · repeat (first | refine VC.seq ?_ | refine VC.block ?_ | refine VC.skip ?_)
      refine VC.region ?_
      refine VR.pure rfl rfl (p_assignP rfl) ?_
      refine VR.nil ?_
      repeat (first | refine VC.seq ?_ | refine VC.block ?_ | refine VC.skip ?_)
      refine VC.ret ⟨_, ResOf.r1 (v := .pointer _) rfl rfl, ?_⟩
      exact .inr ⟨by omega, rfl, hm⟩
    · repeat (first | refine VC.seq ?_ | refine VC.block ?_ | refine VC.skip ?_)
      refine VC.region ?_
      refine VR.pure rfl rfl (p_moveI rfl) ?_
      refine VR.pure rfl rfl (p_build (vs := [(0, .int _ _)]) bld33_0 rfl) ?_
      refine VR.new hm rfl rfl (n_boxG rfl) ?_
      intro g w hm
      refine VR.pure rfl rfl (p_assignP rfl) ?_
      refine VR.nil ?_
      repeat (first | refine VC.seq ?_ | refine VC.block ?_ | refine VC.skip ?_)
      refine VC.ret ⟨_, ResOf.r1 (v := .pointer _) rfl rfl, ?_⟩
      exact .inl ⟨by omega, by omega, g, rfl, hm⟩

def Lk.there (k : Lk) : Prop := 0 < k.inc
instance (k : Lk) : Decidable k.there := by unfold Lk.there; infer_instance

theorem known_none {w : World} : Calls Try.prog 11 #[.pointer none] w (Ret fun v w' => v = .bool false ∧ w' = w) := by
  refine Calls.of_vc Try.func11 rfl Try.ntmps11 rfl ?_
  repeat (first | refine VC.seq ?_ | refine VC.block ?_ | refine VC.skip ?_)
  refine VC.region ?_
  refine VR.pure rfl rfl (p_assignB rfl) ?_
  refine VR.nil ?_
  repeat (first | refine VC.seq ?_ | refine VC.block ?_ | refine VC.skip ?_)
  refine VC.region ?_
  refine VR.pure rfl rfl (p_moveP rfl) ?_
  refine VR.call rfl rfl (r_call1 Try.call32 rfl) (there_none) ?_
  rintro _ w ⟨rfl, rfl⟩
  refine VR.pure rfl rfl (p_moveB rfl) ?_
  refine VR.knownF 5 rfl rfl ?_
  refine VR.pass rfl rfl ?_
  refine VR.pass rfl rfl ?_
  refine VR.pass rfl rfl ?_
  refine VR.pass rfl rfl ?_
  refine VR.pass rfl rfl ?_
  refine VR.pass rfl rfl ?_
  refine VR.pure rfl rfl (p_pickF rfl rfl) ?_
  refine VR.pure rfl rfl (p_assignB rfl) ?_
  refine VR.nil ?_
  repeat (first | refine VC.seq ?_ | refine VC.block ?_ | refine VC.skip ?_)
  refine VC.ret ⟨_, ResOf.r1 (v := .bool _) rfl rfl, ?_⟩
  exact ⟨rfl, rfl⟩
theorem known_c {F : Env} {w : World} {Ls : List Blks} {g : Nat} {k : Lk} {cs : Array Value} {L : Blks} (hm : Mem F w ([(g, .cells cs 33 (0, 0))] :: Ls)) (hk : LkAt F.heap k cs L) :
    Calls Try.prog 11 #[.pointer (some ⟨g, 0, none⟩)] w (Ret fun v w' => v = .bool (decide (k.there ∧ 0 < k.peer)) ∧ w' = w) := by
  obtain ⟨A, n, c, ws, rfl, _⟩ := hk
  refine Calls.of_vc Try.func11 rfl Try.ntmps11 rfl ?_
  repeat (first | refine VC.seq ?_ | refine VC.block ?_ | refine VC.skip ?_)
  refine VC.region ?_
  refine VR.pure rfl rfl (p_assignB rfl) ?_
  refine VR.nil ?_
  repeat (first | refine VC.seq ?_ | refine VC.block ?_ | refine VC.skip ?_)
  refine VC.region ?_
  refine VR.pure rfl rfl (p_moveP rfl) ?_
  refine VR.call rfl rfl (r_call1 Try.call32 rfl) (there_c hm) ?_
  rintro _ w ⟨rfl, rfl⟩
  refine VR.pure rfl rfl (p_moveB rfl) ?_
  refine VR.splitD 5 rfl (fun h => ?_) (fun h => ?_)
  refine VR.pureG rfl rfl (p_moveP rfl) ?_
  refine VR.pureG rfl rfl (p_nilCheck rfl) ?_
  refine VR.pureG rfl rfl (p_field (fo := 1) Try.underlying33 rfl Try.sizeOf31 rfl rfl rfl) ?_
  refine VR.pureG rfl rfl (p_field (fo := 0) Try.underlying31 rfl Try.sizeOf3 rfl rfl rfl) ?_
  refine VR.valG rfl rfl (r_load (v := .int _ _) Try.isAgg3 rfl (hm.at_ 0 0 rfl) rfl) ?_
  refine VR.pureG rfl rfl (p_gt rfl rfl) ?_
  refine VR.pure rfl rfl (p_pickT rfl rfl) ?_
  refine VR.pure rfl rfl (p_assignB rfl) ?_
  refine VR.nil ?_
  rotate_left 1
  refine VR.pass rfl rfl ?_
  refine VR.pass rfl rfl ?_
  refine VR.pass rfl rfl ?_
  refine VR.pass rfl rfl ?_
  refine VR.pass rfl rfl ?_
  refine VR.pass rfl rfl ?_
  refine VR.pure rfl rfl (p_pickF rfl rfl) ?_
  refine VR.pure rfl rfl (p_assignB rfl) ?_
  refine VR.nil ?_
  rotate_left 1
  · repeat (first | refine VC.seq ?_ | refine VC.block ?_ | refine VC.skip ?_)
    refine VC.ret ⟨_, ResOf.r1 (v := .bool _) rfl rfl, ?_⟩
    exact ⟨congrArg Value.bool (decide_eq_decide.2 (by unfold Lk.there; omega)), rfl⟩
  · repeat (first | refine VC.seq ?_ | refine VC.block ?_ | refine VC.skip ?_)
    refine VC.ret ⟨_, ResOf.r1 (v := .bool _) rfl rfl, ?_⟩
    exact ⟨congrArg Value.bool (decide_eq_false (by unfold Lk.there; omega)).symm, rfl⟩
theorem waiting_none {w : World} : Calls Try.prog 12 #[.pointer none] w (Ret fun v w' => v = .int .i64 0 ∧ w' = w) := by
  refine Calls.of_vc Try.func12 rfl Try.ntmps12 rfl ?_
  repeat (first | refine VC.seq ?_ | refine VC.block ?_ | refine VC.skip ?_)
  refine VC.region ?_
  refine VR.pure rfl rfl (p_assignI rfl) ?_
  refine VR.nil ?_
  repeat (first | refine VC.seq ?_ | refine VC.block ?_ | refine VC.skip ?_)
  refine VC.region ?_
  refine VR.pure rfl rfl (p_moveP rfl) ?_
  refine VR.call rfl rfl (r_call1 Try.call32 rfl) (there_none) ?_
  rintro _ w ⟨rfl, rfl⟩
  refine VR.pure rfl rfl (p_not rfl) ?_
  refine VR.nil ?_
  repeat (first | refine VC.seq ?_ | refine VC.block ?_ | refine VC.skip ?_)
  refine VC.condT rfl rfl ?_
  repeat (first | refine VC.seq ?_ | refine VC.block ?_ | refine VC.skip ?_)
  refine VC.region ?_
  refine VR.pure rfl rfl (p_assignI rfl) ?_
  refine VR.nil ?_
  repeat (first | refine VC.seq ?_ | refine VC.block ?_ | refine VC.skip ?_)
  refine VC.ret ⟨_, ResOf.r1 (v := .int _ _) rfl rfl, ?_⟩
  exact ⟨rfl, rfl⟩
theorem waiting_c {F : Env} {w : World} {Ls : List Blks} {g : Nat} {k : Lk} {cs : Array Value} {L : Blks} (hm : Mem F w ([(g, .cells cs 33 (0, 0))] :: Ls)) (hk : LkAt F.heap k cs L) :
    Calls Try.prog 12 #[.pointer (some ⟨g, 0, none⟩)] w (Ret fun v w' => v = .int .i64 (if k.there then k.wait.length else 0 : Int) ∧ w' = w) := by
  obtain ⟨A, n, c, ws, rfl, ho, hws, _⟩ := hk
  have hl := bcells_len ho
  refine Calls.of_vc Try.func12 rfl Try.ntmps12 rfl ?_
  repeat (first | refine VC.seq ?_ | refine VC.block ?_ | refine VC.skip ?_)
  refine VC.region ?_
  refine VR.pure rfl rfl (p_assignI rfl) ?_
  refine VR.nil ?_
  repeat (first | refine VC.seq ?_ | refine VC.block ?_ | refine VC.skip ?_)
  refine VC.region ?_
  refine VR.pure rfl rfl (p_moveP rfl) ?_
  refine VR.call rfl rfl (r_call1 Try.call32 rfl) (there_c hm) ?_
  rintro _ w ⟨rfl, rfl⟩
  refine VR.pure rfl rfl (p_notD rfl) ?_
  refine VR.nil ?_
  repeat (first | refine VC.seq ?_ | refine VC.block ?_ | refine VC.skip ?_)
  refine VC.condD rfl (fun h => ?_) (fun h => ?_)
  · repeat (first | refine VC.seq ?_ | refine VC.block ?_ | refine VC.skip ?_)
    refine VC.region ?_
    refine VR.pure rfl rfl (p_assignI rfl) ?_
    refine VR.nil ?_
    repeat (first | refine VC.seq ?_ | refine VC.block ?_ | refine VC.skip ?_)
    refine VC.ret ⟨_, ResOf.r1 (v := .int _ _) rfl rfl, ?_⟩
    exact ⟨by rw [if_neg (show ¬ k.there from h)], rfl⟩
  · repeat (first | refine VC.seq ?_ | refine VC.block ?_ | refine VC.skip ?_)
    refine VC.region ?_
    refine VR.pure rfl rfl (p_moveP rfl) ?_
    refine VR.pure rfl rfl (p_nilCheck rfl) ?_
    refine VR.pure rfl rfl (p_field (fo := 1) Try.underlying33 rfl Try.sizeOf31 rfl rfl rfl) ?_
    refine VR.pure rfl rfl (p_field (fo := 3) Try.underlying31 rfl Try.sizeOf29 rfl rfl rfl) ?_
    refine VR.val rfl rfl (r_load (v := .slice _ _ _) Try.isAgg29 rfl (hm.at_ 0 0 rfl) rfl) ?_
    refine VR.pure rfl rfl (p_len Try.underlying29 rfl) ?_
    refine VR.pure rfl rfl (p_assignI rfl) ?_
    refine VR.nil ?_
    repeat (first | refine VC.seq ?_ | refine VC.block ?_ | refine VC.skip ?_)
    refine VC.ret ⟨_, ResOf.r1 (v := .int _ _) rfl rfl, ?_⟩
    refine ⟨?_, rfl⟩
    rw [if_pos (show k.there from Classical.not_not.1 h), ← hws, List.length_map, hl]

theorem Mem.rot3 {F : Env} {w : World} {A B D : Blks} {Ls : List Blks} (h : Mem F w (A :: B :: D :: Ls)) : Mem F w (D :: A :: B :: Ls) := h.permF (by
  simp only [List.flatten_cons]
  have e1 : ∀ (a b d f : Blks), (a ++ (b ++ (d ++ f))).Perm (d ++ (a ++ (b ++ f))) := fun a b d f => by
    have := (List.perm_append_comm (l₁ := a ++ b) (l₂ := d)).append_right f
    simpa only [List.append_assoc] using this
  exact e1 _ _ _ _)
theorem Mem.rot4 {F : Env} {w : World} {A B D E : Blks} {Ls : List Blks} (h : Mem F w (A :: B :: D :: E :: Ls)) : Mem F w (E :: A :: B :: D :: Ls) := h.permF (by
  simp only [List.flatten_cons]
  have e1 : ∀ (a b d e f : Blks), (a ++ (b ++ (d ++ (e ++ f)))).Perm (e ++ (a ++ (b ++ (d ++ f)))) := fun a b d e f => by
    have := (List.perm_append_comm (l₁ := a ++ (b ++ d)) (l₂ := e)).append_right f
    simpa only [List.append_assoc] using this
  exact e1 _ _ _ _ _)

/-- What laying a load comes to. -/
def Lk.send (k : Lk) (l : List Int) : Int × Lk :=
  if ¬ k.there then (1, k) else if l.length = 0 then (2, k) else if 1048476 < l.length then (3, k) else if 1000 ≤ k.wait.length then (5, k) else (0, { k with wait := k.wait ++ [l] })

theorem send_none {w : World} {B : Option Addr} {m d : Nat} : Calls Try.prog 10 #[.pointer none, .slice B m d] w (Ret fun v w' => v = .int .i64 1 ∧ w' = w) := by
  refine Calls.of_vc Try.func10 rfl Try.ntmps10 rfl ?_
  repeat (first | refine VC.seq ?_ | refine VC.block ?_ | refine VC.skip ?_)
  refine VC.region ?_
  refine VR.pure rfl rfl (p_assignI rfl) ?_
  refine VR.nil ?_
  repeat (first | refine VC.seq ?_ | refine VC.block ?_ | refine VC.skip ?_)
  refine VC.region ?_
  refine VR.pure rfl rfl (p_moveP rfl) ?_
  refine VR.call rfl rfl (r_call1 Try.call32 rfl) (there_none) ?_
  rintro _ w ⟨rfl, rfl⟩
  refine VR.pure rfl rfl (p_not rfl) ?_
  refine VR.pure rfl rfl (p_assignB rfl) ?_
  refine VR.nil ?_
  repeat (first | refine VC.seq ?_ | refine VC.block ?_ | refine VC.skip ?_)
  refine VC.condT rfl rfl ?_
  repeat (first | refine VC.seq ?_ | refine VC.block ?_ | refine VC.skip ?_)
  refine VC.region ?_
  refine VR.pure rfl rfl (p_assignI rfl) ?_
  refine VR.nil ?_
  repeat (first | refine VC.seq ?_ | refine VC.block ?_ | refine VC.skip ?_)
  refine VC.ret ⟨_, ResOf.r1 (v := .int _ _) rfl rfl, ?_⟩
  exact ⟨rfl, rfl⟩

set_option maxHeartbeats 4000000 in
theorem send_p {F : Env} {w : World} {Ls : List Blks} {g : Nat} {k : Lk} {cs : Array Value} {L : Blks} {B : Option Addr} {m d : Nat} {l : List Int} (hm : Mem F w ([(g, .cells cs 33 (0, 0))] :: L :: Ls)) (hk : LkAt F.heap k cs L) (hr : BRow (F.plus Ls).heap B m l) :
    Calls Try.prog 10 #[.pointer (some ⟨g, 0, none⟩), .slice B m d] w
      (Ret fun v w' => ∃ G cs' L', v = .int .i64 (k.send l).1 ∧ F.under G ∧ LkAt G.heap (k.send l).2 cs' L' ∧ Mem G w' ([(g, .cells cs' 33 (0, 0))] :: L' :: Ls)) := by
  have hk0 := hk
  obtain ⟨A, n, c, ws, rfl, ho, hws, hwo⟩ := hk
  have hl := bcells_len ho
  have hml := hr.len
  have hwl : k.wait.length = n := by rw [← hws, List.length_map, hl]
  refine Calls.of_vc Try.func10 rfl Try.ntmps10 rfl ?_
  repeat (first | refine VC.seq ?_ | refine VC.block ?_ | refine VC.skip ?_)
  refine VC.region ?_
  refine VR.pure rfl rfl (p_assignI rfl) ?_
  refine VR.nil ?_
  repeat (first | refine VC.seq ?_ | refine VC.block ?_ | refine VC.skip ?_)
  refine VC.region ?_
  refine VR.pure rfl rfl (p_moveP rfl) ?_
  refine VR.call rfl rfl (r_call1 Try.call32 rfl) (there_c hm) ?_
  rintro _ w ⟨rfl, rfl⟩
  refine VR.pure rfl rfl (p_notD rfl) ?_
  refine VR.pure rfl rfl (p_assignB rfl) ?_
  refine VR.nil ?_
  repeat (first | refine VC.seq ?_ | refine VC.block ?_ | refine VC.skip ?_)
  refine VC.condD rfl (fun h => ?_) (fun h => ?_)
  · repeat (first | refine VC.seq ?_ | refine VC.block ?_ | refine VC.skip ?_)
    refine VC.region ?_
    refine VR.pure rfl rfl (p_assignI rfl) ?_
    refine VR.nil ?_
    repeat (first | refine VC.seq ?_ | refine VC.block ?_ | refine VC.skip ?_)
    refine VC.ret ⟨_, ResOf.r1 (v := .int _ _) rfl rfl, ?_⟩
    have e : k.send l = (1, k) := by unfold Lk.send; rw [if_pos (show ¬ k.there from h)]
    exact ⟨F, _, L, by rw [e], Env.under_refl F, by rw [e]; exact hk0, hm⟩
  · have h' : ¬ ¬ k.there := h
    repeat (first | refine VC.seq ?_ | refine VC.block ?_ | refine VC.skip ?_)
    refine VC.region ?_
    refine VR.pure rfl rfl (p_moveL rfl) ?_
    refine VR.pure rfl rfl (p_len Try.underlying22 rfl) ?_
    refine VR.pure rfl rfl (p_eq rfl rfl) ?_
    refine VR.pure rfl rfl (p_assignB rfl) ?_
    refine VR.nil ?_
    repeat (first | refine VC.seq ?_ | refine VC.block ?_ | refine VC.skip ?_)
    refine VC.condD rfl (fun h1 => ?_) (fun h1 => ?_)
    · repeat (first | refine VC.seq ?_ | refine VC.block ?_ | refine VC.skip ?_)
      refine VC.region ?_
      refine VR.pure rfl rfl (p_assignI rfl) ?_
      refine VR.nil ?_
      repeat (first | refine VC.seq ?_ | refine VC.block ?_ | refine VC.skip ?_)
      refine VC.ret ⟨_, ResOf.r1 (v := .int _ _) rfl rfl, ?_⟩
      have e : k.send l = (2, k) := by unfold Lk.send; rw [if_neg h', if_pos (by omega)]
      exact ⟨F, _, L, by rw [e], Env.under_refl F, by rw [e]; exact hk0, hm⟩
    · repeat (first | refine VC.seq ?_ | refine VC.block ?_ | refine VC.skip ?_)
      refine VC.region ?_
      refine VR.pure rfl rfl (p_moveL rfl) ?_
      refine VR.pure rfl rfl (p_len Try.underlying22 rfl) ?_
      refine VR.pure rfl rfl (p_gt rfl rfl) ?_
      refine VR.pure rfl rfl (p_assignB rfl) ?_
      refine VR.nil ?_
      repeat (first | refine VC.seq ?_ | refine VC.block ?_ | refine VC.skip ?_)
      refine VC.condD rfl (fun h2 => ?_) (fun h2 => ?_)
      · repeat (first | refine VC.seq ?_ | refine VC.block ?_ | refine VC.skip ?_)
        refine VC.region ?_
        refine VR.pure rfl rfl (p_assignI rfl) ?_
        refine VR.nil ?_
        repeat (first | refine VC.seq ?_ | refine VC.block ?_ | refine VC.skip ?_)
        refine VC.ret ⟨_, ResOf.r1 (v := .int _ _) rfl rfl, ?_⟩
        have e : k.send l = (3, k) := by unfold Lk.send; rw [if_neg h', if_neg (by omega), if_pos (by omega)]
        exact ⟨F, _, L, by rw [e], Env.under_refl F, by rw [e]; exact hk0, hm⟩
      · repeat (first | refine VC.seq ?_ | refine VC.block ?_ | refine VC.skip ?_)
        refine VC.region ?_
        refine VR.pure rfl rfl (p_moveP rfl) ?_
        refine VR.pure rfl rfl (p_nilCheck rfl) ?_
        refine VR.pure rfl rfl (p_field (fo := 1) Try.underlying33 rfl Try.sizeOf31 rfl rfl rfl) ?_
        refine VR.pure rfl rfl (p_field (fo := 3) Try.underlying31 rfl Try.sizeOf29 rfl rfl rfl) ?_
        refine VR.val rfl rfl (r_load (v := .slice _ _ _) Try.isAgg29 rfl (hm.at_ 0 0 rfl) rfl) ?_
        refine VR.pure rfl rfl (p_len Try.underlying29 rfl) ?_
        refine VR.pure rfl rfl (p_ge rfl rfl) ?_
        refine VR.pure rfl rfl (p_assignB rfl) ?_
        refine VR.nil ?_
        repeat (first | refine VC.seq ?_ | refine VC.block ?_ | refine VC.skip ?_)
        refine VC.condD rfl (fun h3 => ?_) (fun h3 => ?_)
        · repeat (first | refine VC.seq ?_ | refine VC.block ?_ | refine VC.skip ?_)
          refine VC.region ?_
          refine VR.pure rfl rfl (p_assignI rfl) ?_
          refine VR.nil ?_
          repeat (first | refine VC.seq ?_ | refine VC.block ?_ | refine VC.skip ?_)
          refine VC.ret ⟨_, ResOf.r1 (v := .int _ _) rfl rfl, ?_⟩
          have e : k.send l = (5, k) := by unfold Lk.send; rw [if_neg h', if_neg (by omega), if_neg (by omega), if_pos (by omega)]
          exact ⟨F, _, L, by rw [e], Env.under_refl F, by rw [e]; exact hk0, hm⟩
        · have e : k.send l = (0, { k with wait := k.wait ++ [l] }) := by unfold Lk.send; rw [if_neg h', if_neg (by omega), if_neg (by omega), if_neg (by omega)]
          repeat (first | refine VC.seq ?_ | refine VC.block ?_ | refine VC.skip ?_)
          refine VC.free (Kept F []) [5, 7, 8, 9, 13] rfl (by kernel_rfl) (Kept.of0 hm.drew) ?_
          replace hm := hm.drew
          refine VD.pure 0 rfl (by kernel_rfl) rfl rfl (p_moveP rfl) ?_
          refine VD.pure 1 rfl (by kernel_rfl) rfl rfl (p_moveP rfl) ?_
          refine VD.pure 2 rfl (by kernel_rfl) rfl rfl (p_nilCheck rfl) ?_
          refine VD.pure 3 rfl (by kernel_rfl) rfl rfl (p_field (fo := 1) Try.underlying33 rfl Try.sizeOf31 rfl rfl rfl) ?_
          refine VD.pure 4 rfl (by kernel_rfl) rfl rfl (p_field (fo := 3) Try.underlying31 rfl Try.sizeOf29 rfl rfl rfl) ?_
          refine VD.pure 6 rfl (by kernel_rfl) rfl rfl (p_moveL rfl) ?_
          refine VD.turn2 5 7 (by kernel_rfl) ?_ ?_
          refine VDT.val rfl rfl rfl (r_load (v := .slice _ _ _) Try.isAgg29 rfl (hm.at_ 0 0 rfl) rfl) (Kept.of0 hm) ?_
          refine VD.turn1 7 (by kernel_rfl) ?_
          refine VDT.call rfl rfl rfl (r_call1 Try.call33 rfl) (cloneP_c hm (by omega) (hr.mono (Env.le_trans hm.pop.leC hm.leC))) ?_
          rintro _ w ⟨A7, c7, L7, rfl, ho7, hm⟩
          refine ⟨Kept.of0 hm, ?_⟩
          refine VD.turn1 8 (by kernel_rfl) ?_
          refine VDT.new hm rfl rfl rfl (n_buildSlice1 (vs := [.slice _ _ _]) Try.underlying29 inf22 rfl rfl rfl rfl rfl rfl rfl) (fun b' w' hm' => Kept.of0 hm') ?_
          intro g8 w hm
          replace hm := hm.rot4
          refine VD.turn1 9 (by kernel_rfl) ?_
          refine VDT.appendO (s := 1) (bytes := 24) Try.underlying29 inf22 rfl rfl rfl rfl rfl rfl rfl rfl rfl rfl hm ho (Row.lit (cs := [.slice A7 m c7]) (hm.at_ 1 0 rfl)) (by simp [Value.oneCell']) rfl ⟨by unfold maxLen; omega, by omega⟩ (fun A' c' w' L' ho' hm' => Kept.of0 hm') ?_
          intro A9 c9 w L9 ho9 hm
          refine VD.pure 10 rfl (by kernel_rfl) rfl rfl (p_nilCheck rfl) ?_
          refine VD.pure 11 rfl (by kernel_rfl) rfl rfl (p_field (fo := 1) Try.underlying33 rfl Try.sizeOf31 rfl rfl rfl) ?_
          refine VD.pure 12 rfl (by kernel_rfl) rfl rfl (p_field (fo := 3) Try.underlying31 rfl Try.sizeOf29 rfl rfl rfl) ?_
          refine VD.turn1 13 (by kernel_rfl) ?_
          refine VDT.store (cs' := #[.int .i64 k.inc, .int .i64 k.peer, .int .i64 k.acked, .int .i64 k.got, .slice A9 (n + 1) c9]) (v := .slice _ _ _) Try.sizeOf29 rfl rfl rfl rfl rfl rfl hm 3 0 rfl (Nat.ble_eq.mp rfl) rfl (fun w' hm' => Kept.of0 hm') ?_
          intro w hm
          refine VD.nil (by kernel_rfl) rfl ?_
          rotate_left 1
          refine VDT.call rfl rfl rfl (r_call1 Try.call33 rfl) (cloneP_c hm (by omega) (hr.mono (Env.le_trans hm.pop.leC hm.leC))) ?_
          rintro _ w ⟨A7, c7, L7, rfl, ho7, hm⟩
          refine ⟨Kept.of0 hm, ?_⟩
          refine VD.turn2 5 8 (by kernel_rfl) ?_ ?_
          refine VDT.val rfl rfl rfl (r_load (v := .slice _ _ _) Try.isAgg29 rfl (hm.at_ 1 0 rfl) rfl) (Kept.of0 hm) ?_
          refine VD.turn1 8 (by kernel_rfl) ?_
          refine VDT.new hm rfl rfl rfl (n_buildSlice1 (vs := [.slice _ _ _]) Try.underlying29 inf22 rfl rfl rfl rfl rfl rfl rfl) (fun b' w' hm' => Kept.of0 hm') ?_
          intro g8 w hm
          replace hm := hm.rot4
          refine VD.turn1 9 (by kernel_rfl) ?_
          refine VDT.appendO (s := 1) (bytes := 24) Try.underlying29 inf22 rfl rfl rfl rfl rfl rfl rfl rfl rfl rfl hm ho (Row.lit (cs := [.slice A7 m c7]) (hm.at_ 1 0 rfl)) (by simp [Value.oneCell']) rfl ⟨by unfold maxLen; omega, by omega⟩ (fun A' c' w' L' ho' hm' => Kept.of0 hm') ?_
          intro A9 c9 w L9 ho9 hm
          refine VD.pure 10 rfl (by kernel_rfl) rfl rfl (p_nilCheck rfl) ?_
          refine VD.pure 11 rfl (by kernel_rfl) rfl rfl (p_field (fo := 1) Try.underlying33 rfl Try.sizeOf31 rfl rfl rfl) ?_
          refine VD.pure 12 rfl (by kernel_rfl) rfl rfl (p_field (fo := 3) Try.underlying31 rfl Try.sizeOf29 rfl rfl rfl) ?_
          refine VD.turn1 13 (by kernel_rfl) ?_
          refine VDT.store (cs' := #[.int .i64 k.inc, .int .i64 k.peer, .int .i64 k.acked, .int .i64 k.got, .slice A9 (n + 1) c9]) (v := .slice _ _ _) Try.sizeOf29 rfl rfl rfl rfl rfl rfl hm 3 0 rfl (Nat.ble_eq.mp rfl) rfl (fun w' hm' => Kept.of0 hm') ?_
          intro w hm
          refine VD.nil (by kernel_rfl) rfl ?_
          rotate_left 1
          refine VDT.new hm rfl rfl rfl (n_buildSlice1 (vs := [.slice _ _ _]) Try.underlying29 inf22 rfl rfl rfl rfl rfl rfl rfl) (fun b' w' hm' => Kept.of0 hm') ?_
          intro g8 w hm
          refine VD.turn1 5 (by kernel_rfl) ?_
          refine VDT.val rfl rfl rfl (r_load (v := .slice _ _ _) Try.isAgg29 rfl (hm.at_ 2 0 rfl) rfl) (Kept.of0 hm) ?_
          replace hm := hm.rot4
          refine VD.turn1 9 (by kernel_rfl) ?_
          refine VDT.appendO (s := 1) (bytes := 24) Try.underlying29 inf22 rfl rfl rfl rfl rfl rfl rfl rfl rfl rfl hm ho (Row.lit (cs := [.slice A7 m c7]) (hm.at_ 1 0 rfl)) (by simp [Value.oneCell']) rfl ⟨by unfold maxLen; omega, by omega⟩ (fun A' c' w' L' ho' hm' => Kept.of0 hm') ?_
          intro A9 c9 w L9 ho9 hm
          refine VD.pure 10 rfl (by kernel_rfl) rfl rfl (p_nilCheck rfl) ?_
          refine VD.pure 11 rfl (by kernel_rfl) rfl rfl (p_field (fo := 1) Try.underlying33 rfl Try.sizeOf31 rfl rfl rfl) ?_
          refine VD.pure 12 rfl (by kernel_rfl) rfl rfl (p_field (fo := 3) Try.underlying31 rfl Try.sizeOf29 rfl rfl rfl) ?_
          refine VD.turn1 13 (by kernel_rfl) ?_
          refine VDT.store (cs' := #[.int .i64 k.inc, .int .i64 k.peer, .int .i64 k.acked, .int .i64 k.got, .slice A9 (n + 1) c9]) (v := .slice _ _ _) Try.sizeOf29 rfl rfl rfl rfl rfl rfl hm 3 0 rfl (Nat.ble_eq.mp rfl) rfl (fun w' hm' => Kept.of0 hm') ?_
          intro w hm
          refine VD.nil (by kernel_rfl) rfl ?_
          rotate_left 1
          all_goals
            repeat (first | refine VC.seq ?_ | refine VC.block ?_ | refine VC.skip ?_)
            refine VC.region ?_
            refine VR.pure rfl rfl (p_assignI rfl) ?_
            refine VR.nil ?_
            repeat (first | refine VC.seq ?_ | refine VC.block ?_ | refine VC.skip ?_)
            refine VC.ret ⟨_, ResOf.r1 (v := .int _ _) rfl rfl, ?_⟩
            replace hm : Mem F w (L9 :: [(g8, .cells #[.slice A7 m c7] 22 (0, 0))] :: L7 :: [(g, .cells #[.int .i64 k.inc, .int .i64 k.peer, .int .i64 k.acked, .int .i64 k.got, .slice A9 (n + 1) c9] 33 (0, 0))] :: Ls) := hm
            obtain ⟨G, hu, hm, hG⟩ := hm.pop2.swap.freeze
            refine ⟨G, _, L9, by rw [e], hu, ?_, hm.swap⟩
            rw [e]
            refine ⟨A9, n + 1, c9, ws ++ [⟨A7, m, c7, l⟩], rfl, ?_, ?_, fun b hb => ?_⟩
            · have e2 : bcells (ws ++ [⟨A7, m, c7, l⟩]) = bcells ws ++ [.slice A7 m c7] := by
                show (ws ++ [_]).flatMap Bs.cells = ws.flatMap Bs.cells ++ _
                rw [List.flatMap_append]
                rfl
              rw [e2]
              exact ho9
            · rw [List.map_append, hws]
              rfl
            · rcases List.mem_append.1 hb with hb | hb
              · exact ⟨(hwo b hb).1.mono hu.heap, (hwo b hb).2⟩
              · simp only [List.mem_singleton] at hb
                subst hb
                exact ⟨ho7.row1 hG, by simp only; omega⟩

theorem send_c {F : Env} {w : World} {Ls : List Blks} {g : Nat} {k : Lk} {cs : Array Value} {L : Blks} {B : Option Addr} {m d : Nat} {l : List Int} (hm : Mem F w ([(g, .cells cs 33 (0, 0))] :: L :: Ls)) (hk : LkAt F.heap k cs L) (hr : BRow F.heap B m l) :
    Calls Try.prog 10 #[.pointer (some ⟨g, 0, none⟩), .slice B m d] w
      (Ret fun v w' => ∃ G cs' L', v = .int .i64 (k.send l).1 ∧ F.under G ∧ LkAt G.heap (k.send l).2 cs' L' ∧ Mem G w' ([(g, .cells cs' 33 (0, 0))] :: L' :: Ls)) :=
  send_p hm hk (hr.mono hm.pop.pop.le)

end Go.Bd
