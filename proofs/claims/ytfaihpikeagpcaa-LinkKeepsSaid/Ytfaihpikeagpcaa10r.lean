/- Contracts of layer 10: the document's link, resets. Conditions: as each states. -/
import Derived.Test.Ytfaihpikeagpcaa10d
namespace Go.Bd
open Go.Proofs
set_option linter.unusedVariables false
set_option maxRecDepth 20000

def Lk.reset (k : Lk) (inc : Int) : Lk := if k.inc < inc ∧ inc ≤ 1099511627776 then ⟨inc, 0, 0, 0, []⟩ else k
theorem reset_c {F : Env} {w : World} {Ls : List Blks} {g : Nat} {k : Lk} {cs : Array Value} {L : Blks} {inc : Int} (hm : Mem F w ([(g, .cells cs 33 (0, 0))] :: L :: Ls)) (hk : LkAt F.heap k cs L) (ht : k.there) :
    Calls Try.prog 29 #[.pointer (some ⟨g, 0, none⟩), .int .i64 inc] w (Ret fun v w' => ∃ cs' L', LkAt F.heap (k.reset inc) cs' L' ∧ Mem F w' ([(g, .cells cs' 33 (0, 0))] :: L' :: Ls)) := by
  have hk0 := hk
  obtain ⟨A, n, c, ws, rfl, ho, hws, hwo⟩ := hk
  refine Calls.of_vc Try.func29 rfl Try.ntmps29 rfl ?_
  repeat (first | refine VC.seq ?_ | refine VC.block ?_ | refine VC.skip ?_)
  refine VC.region ?_
  refine VR.pure rfl rfl (p_moveP rfl) ?_
  refine VR.call rfl rfl (r_call1 Try.call32 rfl) (there_c hm) ?_
  rintro _ w ⟨rfl, rfl⟩
  refine VR.pure rfl rfl (p_moveB rfl) ?_
  refine VR.knownT 6 rfl (decide_eq_true ht) ?_
  refine VR.pureG rfl rfl (p_moveI rfl) ?_
  refine VR.pureG rfl rfl (p_moveP rfl) ?_
  refine VR.pureG rfl rfl (p_nilCheck rfl) ?_
  refine VR.pureG rfl rfl (p_field (fo := 0) Try.underlying33 rfl Try.sizeOf3 rfl rfl rfl) ?_
  refine VR.valG rfl rfl (r_load (v := .int _ _) Try.isAgg3 rfl (hm.at_ 0 0 rfl) rfl) ?_
  refine VR.pureG rfl rfl (p_gt rfl rfl) ?_
  refine VR.pure rfl rfl (p_pickT rfl rfl) ?_
  refine VR.pure rfl rfl (p_moveB rfl) ?_
  refine VR.splitD 14 rfl (fun h2 => ?_) (fun h2 => ?_)
  refine VR.pureG rfl rfl (p_moveI rfl) ?_
  refine VR.pureG rfl rfl (p_le rfl rfl) ?_
  refine VR.pure rfl rfl (p_pickT rfl rfl) ?_
  refine VR.nil ?_
  rotate_left 1
  refine VR.pass rfl rfl ?_
  refine VR.pass rfl rfl ?_
  refine VR.pure rfl rfl (p_pickF rfl rfl) ?_
  refine VR.nil ?_
  rotate_left 1
  · repeat (first | refine VC.seq ?_ | refine VC.block ?_ | refine VC.skip ?_)
    refine VC.condD rfl (fun h3 => ?_) (fun h3 => ?_)
    · repeat (first | refine VC.seq ?_ | refine VC.block ?_ | refine VC.skip ?_)
      refine VC.region ?_
      refine VR.pure rfl rfl (p_moveP rfl) ?_
      refine VR.pure rfl rfl (p_moveI rfl) ?_
      refine VR.pure rfl rfl (p_build (vs := [(0, .int _ _)]) bld33_0 rfl) ?_
      refine VR.pure rfl rfl (p_nilCheck rfl) ?_
      refine VR.store (cs' := #[.int .i64 inc, .int .i64 0, .int .i64 0, .int .i64 0, .slice none 0 0]) (v := .agg _) Try.sizeOf33 rfl rfl rfl rfl rfl hm 0 0 rfl (Nat.ble_eq.mp rfl) rfl ?_
      intro w hm
      refine VR.nil ?_
      refine ⟨_, ResOf.r0 rfl, _, [], ?_, hm.swap.pop.nil_.swap⟩
      unfold Lk.reset
      rw [if_pos ⟨by omega, by omega⟩]
      exact LkAt.new _ inc
    · repeat (first | refine VC.seq ?_ | refine VC.block ?_ | refine VC.skip ?_)
      refine ⟨_, ResOf.r0 rfl, _, L, ?_, hm⟩
      unfold Lk.reset
      rw [if_neg (by omega)]
      exact hk0
  · repeat (first | refine VC.seq ?_ | refine VC.block ?_ | refine VC.skip ?_)
    refine VC.condF rfl rfl ?_
    repeat (first | refine VC.seq ?_ | refine VC.block ?_ | refine VC.skip ?_)
    refine ⟨_, ResOf.r0 rfl, _, L, ?_, hm⟩
    unfold Lk.reset
    rw [if_neg (by omega)]
    exact hk0

/-- How the document's link lies. -/
def RkAt (H : Nat → Option Obj) (k : Lk) (cs : Array Value) (L : Blks) : Prop :=
  ∃ A n c ws, cs = #[.int .i64 k.inc, .int .i64 k.peer, .slice A n c, .int .i64 k.acked, .int .i64 k.got] ∧ OwnO 22 1 A n c (bcells ws) L ∧ ws.map Bs.bs = k.wait ∧ ∀ b ∈ ws, BsOk H b
theorem RkAt.mono {H K : Nat → Option Obj} {k : Lk} {cs : Array Value} {L : Blks} (h : RkAt H k cs L) (hle : ∀ b o, H b = some o → K b = some o) : RkAt K k cs L := by
  obtain ⟨A, n, c, ws, h1, h2, h3, h4⟩ := h
  exact ⟨A, n, c, ws, h1, h2, h3, fun b hb => ⟨(h4 b hb).1.mono hle, (h4 b hb).2⟩⟩
theorem RkAt.new (H : Nat → Option Obj) (inc : Int) : RkAt H (lk0 inc) #[.int .i64 inc, .int .i64 0, .slice none 0 0, .int .i64 0, .int .i64 0] [] :=
  ⟨none, 0, 0, [], rfl, OwnO.nil _ _, rfl, fun b hb => by simp at hb⟩

theorem rnew_c {F : Env} {w : World} {Ls : List Blks} {inc : Int} (hm : Mem F w Ls) :
    Calls Try.prog 21 #[.int .i64 inc] w (Ret fun v w' => ∃ g, v = .tuple #[.pointer (some ⟨g, 0, none⟩), .bool (decide (1 ≤ inc ∧ inc ≤ 1099511627776))] ∧
      Mem F w' ([(g, .cells #[.int .i64 inc, .int .i64 0, .slice none 0 0, .int .i64 0, .int .i64 0] 65 (0, 0))] :: [] :: Ls)) := by
  refine Calls.of_vc Try.func21 rfl Try.ntmps21 rfl ?_
  repeat (first | refine VC.seq ?_ | refine VC.block ?_ | refine VC.skip ?_)
  refine VC.region ?_
  refine VR.pure rfl rfl (p_assignP rfl) ?_
  refine VR.pure rfl rfl (p_assignB rfl) ?_
  refine VR.nil ?_
  repeat (first | refine VC.seq ?_ | refine VC.block ?_ | refine VC.skip ?_)
  refine VC.region ?_
  refine VR.pure rfl rfl (p_moveI rfl) ?_
  refine VR.pure rfl rfl (p_build (vs := [(0, .int _ _)]) bld65_0 rfl) ?_
  refine VR.new hm rfl rfl (n_boxG rfl) ?_
  intro g w hm
  refine VR.pure rfl rfl (p_moveI rfl) ?_
  refine VR.pure rfl rfl (p_ge rfl rfl) ?_
  refine VR.pure rfl rfl (p_moveB rfl) ?_
  refine VR.splitD 9 rfl (fun h1 => ?_) (fun h1 => ?_)
  refine VR.pureG rfl rfl (p_moveI rfl) ?_
  refine VR.pureG rfl rfl (p_le rfl rfl) ?_
  refine VR.pure rfl rfl (p_pickT rfl rfl) ?_
  refine VR.pure rfl rfl (p_assignP rfl) ?_
  refine VR.pure rfl rfl (p_assignB rfl) ?_
  refine VR.nil ?_
  rotate_left 1
  refine VR.pass rfl rfl ?_
  refine VR.pass rfl rfl ?_
  refine VR.pure rfl rfl (p_pickF rfl rfl) ?_
  refine VR.pure rfl rfl (p_assignP rfl) ?_
  refine VR.pure rfl rfl (p_assignB rfl) ?_
  refine VR.nil ?_
  rotate_left 1
  · repeat (first | refine VC.seq ?_ | refine VC.block ?_ | refine VC.skip ?_)
    refine VC.ret ⟨_, ResOf.r2 (v := .pointer _) (u := .bool _) rfl rfl rfl, ?_⟩
    exact ⟨g, congrArg (fun b => Value.tuple #[.pointer (some ⟨g, 0, none⟩), .bool b]) (decide_eq_decide.2 (by omega)), hm.nil_.swap⟩
  · repeat (first | refine VC.seq ?_ | refine VC.block ?_ | refine VC.skip ?_)
    refine VC.ret ⟨_, ResOf.r2 (v := .pointer _) (u := .bool _) rfl rfl rfl, ?_⟩
    exact ⟨g, congrArg (fun b => Value.tuple #[.pointer (some ⟨g, 0, none⟩), .bool b]) (decide_eq_false (by omega)).symm, hm.nil_.swap⟩
theorem rreset_c {F : Env} {w : World} {Ls : List Blks} {g : Nat} {k : Lk} {cs : Array Value} {L : Blks} {inc : Int} (hm : Mem F w ([(g, .cells cs 65 (0, 0))] :: L :: Ls)) (hk : RkAt F.heap k cs L) :
    Calls Try.prog 30 #[.pointer (some ⟨g, 0, none⟩), .int .i64 inc] w (Ret fun v w' => ∃ cs' L', RkAt F.heap (k.reset inc) cs' L' ∧ Mem F w' ([(g, .cells cs' 65 (0, 0))] :: L' :: Ls)) := by
  have hk0 := hk
  obtain ⟨A, n, c, ws, rfl, ho, hws, hwo⟩ := hk
  refine Calls.of_vc Try.func30 rfl Try.ntmps30 rfl ?_
  repeat (first | refine VC.seq ?_ | refine VC.block ?_ | refine VC.skip ?_)
  refine VC.region ?_
  refine VR.pure rfl rfl (p_moveI rfl) ?_
  refine VR.pure rfl rfl (p_moveP rfl) ?_
  refine VR.pure rfl rfl (p_nilCheck rfl) ?_
  refine VR.pure rfl rfl (p_field (fo := 0) Try.underlying65 rfl Try.sizeOf3 rfl rfl rfl) ?_
  refine VR.val rfl rfl (r_load (v := .int _ _) Try.isAgg3 rfl (hm.at_ 0 0 rfl) rfl) ?_
  refine VR.pure rfl rfl (p_gt rfl rfl) ?_
  refine VR.pure rfl rfl (p_moveB rfl) ?_
  refine VR.splitD 10 rfl (fun h2 => ?_) (fun h2 => ?_)
  refine VR.pureG rfl rfl (p_moveI rfl) ?_
  refine VR.pureG rfl rfl (p_le rfl rfl) ?_
  refine VR.pure rfl rfl (p_pickT rfl rfl) ?_
  refine VR.nil ?_
  rotate_left 1
  refine VR.pass rfl rfl ?_
  refine VR.pass rfl rfl ?_
  refine VR.pure rfl rfl (p_pickF rfl rfl) ?_
  refine VR.nil ?_
  rotate_left 1
  · repeat (first | refine VC.seq ?_ | refine VC.block ?_ | refine VC.skip ?_)
    refine VC.condD rfl (fun h3 => ?_) (fun h3 => ?_)
    · repeat (first | refine VC.seq ?_ | refine VC.block ?_ | refine VC.skip ?_)
      refine VC.region ?_
      refine VR.pure rfl rfl (p_moveP rfl) ?_
      refine VR.pure rfl rfl (p_moveI rfl) ?_
      refine VR.pure rfl rfl (p_build (vs := [(0, .int _ _)]) bld65_0 rfl) ?_
      refine VR.pure rfl rfl (p_nilCheck rfl) ?_
      refine VR.store (cs' := #[.int .i64 inc, .int .i64 0, .slice none 0 0, .int .i64 0, .int .i64 0]) (v := .agg _) Try.sizeOf65 rfl rfl rfl rfl rfl hm 0 0 rfl (Nat.ble_eq.mp rfl) rfl ?_
      intro w hm
      refine VR.nil ?_
      refine ⟨_, ResOf.r0 rfl, _, [], ?_, hm.swap.pop.nil_.swap⟩
      unfold Lk.reset
      rw [if_pos ⟨by omega, by omega⟩]
      exact RkAt.new _ inc
    · repeat (first | refine VC.seq ?_ | refine VC.block ?_ | refine VC.skip ?_)
      refine ⟨_, ResOf.r0 rfl, _, L, ?_, hm⟩
      unfold Lk.reset
      rw [if_neg (by omega)]
      exact hk0
  · repeat (first | refine VC.seq ?_ | refine VC.block ?_ | refine VC.skip ?_)
    refine VC.condF rfl rfl ?_
    repeat (first | refine VC.seq ?_ | refine VC.block ?_ | refine VC.skip ?_)
    refine ⟨_, ResOf.r0 rfl, _, L, ?_, hm⟩
    unfold Lk.reset
    rw [if_neg (by omega)]
    exact hk0

set_option maxHeartbeats 4000000 in
theorem rsend_c {F : Env} {w : World} {Ls : List Blks} {g : Nat} {k : Lk} {cs : Array Value} {L : Blks} {B : Option Addr} {m d : Nat} {l : List Int} (hm : Mem F w ([(g, .cells cs 65 (0, 0))] :: L :: Ls)) (hk : RkAt F.heap k cs L) (ht : k.there)
    (hr : BRow F.heap B m l) :
    Calls Try.prog 23 #[.pointer (some ⟨g, 0, none⟩), .slice B m d] w
      (Ret fun v w' => ∃ G cs' L', v = .int .i64 (k.send l).1 ∧ F.under G ∧ RkAt G.heap (k.send l).2 cs' L' ∧ Mem G w' ([(g, .cells cs' 65 (0, 0))] :: L' :: Ls)) := by
  have hk0 := hk
  obtain ⟨A, n, c, ws, rfl, ho, hws, hwo⟩ := hk
  have hl := bcells_len ho
  have hml := hr.len
  have hwl : k.wait.length = n := by rw [← hws, List.length_map, hl]
  have h' : ¬ ¬ k.there := not_not_intro ht
  have hr1 : Row F.heap B (m * 1) (bytes l) := by rw [Nat.mul_one]; exact hr
  refine Calls.of_vc Try.func23 rfl Try.ntmps23 rfl ?_
  repeat (first | refine VC.seq ?_ | refine VC.block ?_ | refine VC.skip ?_)
  refine VC.region ?_
  refine VR.pure rfl rfl (p_assignI rfl) ?_
  refine VR.nil ?_
  repeat (first | refine VC.seq ?_ | refine VC.block ?_ | refine VC.skip ?_)
  refine VC.region ?_
  refine VR.pure rfl rfl (p_moveL rfl) ?_
  refine VR.pure rfl rfl (p_len Try.underlying22 rfl) ?_
  refine VR.pure rfl rfl (p_eq rfl rfl) ?_
  refine VR.nil ?_
  repeat (first | refine VC.seq ?_ | refine VC.block ?_ | refine VC.skip ?_)
  refine VC.condD rfl (fun h1 => ?_) (fun h1 => ?_)
  · repeat (first | refine VC.seq ?_ | refine VC.block ?_ | refine VC.skip ?_)
    refine VC.region ?_
    refine VR.pure rfl rfl (p_assignI rfl) ?_
    refine VR.nil ?_
    repeat (first | refine VC.seq ?_ | refine VC.block ?_ | refine VC.skip ?_)
    refine VC.ret ⟨_, ResOf.r1 (v := .int _ _) rfl rfl, ?_⟩
    have e : k.send l = (2, k) := by unfold Lk.send; rw [if_neg h', if_pos (by omega)]
    exact ⟨F, _, L, by rw [e], Env.under_refl F, by rw [e]; exact hk0, hm⟩
  · repeat (first | refine VC.seq ?_ | refine VC.block ?_ | refine VC.skip ?_)
    refine VC.region ?_
    refine VR.pure rfl rfl (p_moveL rfl) ?_
    refine VR.pure rfl rfl (p_len Try.underlying22 rfl) ?_
    refine VR.pure rfl rfl (p_gt rfl rfl) ?_
    refine VR.nil ?_
    repeat (first | refine VC.seq ?_ | refine VC.block ?_ | refine VC.skip ?_)
    refine VC.condD rfl (fun h2 => ?_) (fun h2 => ?_)
    · repeat (first | refine VC.seq ?_ | refine VC.block ?_ | refine VC.skip ?_)
      refine VC.region ?_
      refine VR.pure rfl rfl (p_assignI rfl) ?_
      refine VR.nil ?_
      repeat (first | refine VC.seq ?_ | refine VC.block ?_ | refine VC.skip ?_)
      refine VC.ret ⟨_, ResOf.r1 (v := .int _ _) rfl rfl, ?_⟩
      have e : k.send l = (3, k) := by unfold Lk.send; rw [if_neg h', if_neg (by omega), if_pos (by omega)]
      exact ⟨F, _, L, by rw [e], Env.under_refl F, by rw [e]; exact hk0, hm⟩
    · repeat (first | refine VC.seq ?_ | refine VC.block ?_ | refine VC.skip ?_)
      refine VC.region ?_
      refine VR.pure rfl rfl (p_moveP rfl) ?_
      refine VR.pure rfl rfl (p_nilCheck rfl) ?_
      refine VR.pure rfl rfl (p_field (fo := 2) Try.underlying65 rfl Try.sizeOf29 rfl rfl rfl) ?_
      refine VR.val rfl rfl (r_load (v := .slice _ _ _) Try.isAgg29 rfl (hm.at_ 0 0 rfl) rfl) ?_
      refine VR.pure rfl rfl (p_len Try.underlying29 rfl) ?_
      refine VR.pure rfl rfl (p_ge rfl rfl) ?_
      refine VR.nil ?_
      repeat (first | refine VC.seq ?_ | refine VC.block ?_ | refine VC.skip ?_)
      refine VC.condD rfl (fun h3 => ?_) (fun h3 => ?_)
      · repeat (first | refine VC.seq ?_ | refine VC.block ?_ | refine VC.skip ?_)
        refine VC.region ?_
        refine VR.pure rfl rfl (p_assignI rfl) ?_
        refine VR.nil ?_
        repeat (first | refine VC.seq ?_ | refine VC.block ?_ | refine VC.skip ?_)
        refine VC.ret ⟨_, ResOf.r1 (v := .int _ _) rfl rfl, ?_⟩
        have e : k.send l = (5, k) := by unfold Lk.send; rw [if_neg h', if_neg (by omega), if_neg (by omega), if_pos (by omega)]
        exact ⟨F, _, L, by rw [e], Env.under_refl F, by rw [e]; exact hk0, hm⟩
      · have e : k.send l = (0, { k with wait := k.wait ++ [l] }) := by unfold Lk.send; rw [if_neg h', if_neg (by omega), if_neg (by omega), if_neg (by omega)]
        repeat (first | refine VC.seq ?_ | refine VC.block ?_ | refine VC.skip ?_)
        refine VC.free (Kept F []) [4, 5, 7, 8, 9, 12] rfl (by kernel_rfl) (Kept.of0 hm.drew) ?_
        replace hm := hm.drew
        refine VD.pure 0 rfl (by kernel_rfl) rfl rfl (p_moveP rfl) ?_
        refine VD.pure 1 rfl (by kernel_rfl) rfl rfl (p_moveP rfl) ?_
        refine VD.pure 2 rfl (by kernel_rfl) rfl rfl (p_nilCheck rfl) ?_
        refine VD.pure 3 rfl (by kernel_rfl) rfl rfl (p_field (fo := 2) Try.underlying65 rfl Try.sizeOf29 rfl rfl rfl) ?_
        refine VD.pure 6 rfl (by kernel_rfl) rfl rfl (p_moveL rfl) ?_
        refine VD.turn2 4 5 (by kernel_rfl) ?_ ?_
        refine VDT.val rfl rfl rfl (r_load (v := .slice _ _ _) Try.isAgg29 rfl (hm.at_ 0 0 rfl) rfl) (Kept.of0 hm) ?_
        refine VD.turn1 5 (by kernel_rfl) ?_
        refine VDT.new hm rfl rfl rfl (n_buildSlice0 Try.underlying22 inf5) (fun b' w' hm' => Kept.of0 hm') ?_
        intro g5 w hm
        refine VD.turn1 7 (by kernel_rfl) ?_
        refine VDT.append (s := 1) (bytes := 1) Try.underlying22 inf5 rfl rfl rfl rfl rfl rfl rfl rfl rfl rfl hm (OwnS.made (c := 0) (by unfold maxLen; omega) rfl) (hr1.mono hm.fix) (bytes_one l) (Nat.zero_add m) ⟨by unfold maxLen; omega, by omega⟩ (fun A' c' w' L' ho' hm' => Kept.of0 hm') ?_
        intro A7 c7 w L7 ho7 hm
        refine VD.turn1 8 (by kernel_rfl) ?_
        refine VDT.new hm rfl rfl rfl (n_buildSlice1 (vs := [.slice _ _ _]) Try.underlying29 inf22 rfl rfl rfl rfl rfl rfl rfl) (fun b' w' hm' => Kept.of0 hm') ?_
        intro g8 w hm
        replace hm := hm.rot4
        refine VD.turn1 9 (by kernel_rfl) ?_
        refine VDT.appendO (s := 1) (bytes := 24) Try.underlying29 inf22 rfl rfl rfl rfl rfl rfl rfl rfl rfl rfl hm ho (Row.lit (cs := [.slice A7 m c7]) (hm.at_ 1 0 rfl)) (by simp [Value.oneCell']) rfl ⟨by unfold maxLen; omega, by omega⟩ (fun A' c' w' L' ho' hm' => Kept.of0 hm') ?_
        intro A9 c9 w L9 ho9 hm
        refine VD.pure 10 rfl (by kernel_rfl) rfl rfl (p_nilCheck rfl) ?_
        refine VD.pure 11 rfl (by kernel_rfl) rfl rfl (p_field (fo := 2) Try.underlying65 rfl Try.sizeOf29 rfl rfl rfl) ?_
        refine VD.turn1 12 (by kernel_rfl) ?_
        refine VDT.store (cs' := #[.int .i64 k.inc, .int .i64 k.peer, .slice A9 (n + 1) c9, .int .i64 k.acked, .int .i64 k.got]) (v := .slice _ _ _) Try.sizeOf29 rfl rfl rfl rfl rfl rfl hm 3 0 rfl (Nat.ble_eq.mp rfl) rfl (fun w' hm' => Kept.of0 hm') ?_
        intro w hm
        refine VD.nil (by kernel_rfl) rfl ?_
        rotate_left 1
        refine VDT.new hm rfl rfl rfl (n_buildSlice0 Try.underlying22 inf5) (fun b' w' hm' => Kept.of0 hm') ?_
        intro g5 w hm
        refine VD.turn2 4 7 (by kernel_rfl) ?_ ?_
        refine VDT.val rfl rfl rfl (r_load (v := .slice _ _ _) Try.isAgg29 rfl (hm.at_ 1 0 rfl) rfl) (Kept.of0 hm) ?_
        refine VD.turn1 7 (by kernel_rfl) ?_
        refine VDT.append (s := 1) (bytes := 1) Try.underlying22 inf5 rfl rfl rfl rfl rfl rfl rfl rfl rfl rfl hm (OwnS.made (c := 0) (by unfold maxLen; omega) rfl) (hr1.mono hm.fix) (bytes_one l) (Nat.zero_add m) ⟨by unfold maxLen; omega, by omega⟩ (fun A' c' w' L' ho' hm' => Kept.of0 hm') ?_
        intro A7 c7 w L7 ho7 hm
        refine VD.turn1 8 (by kernel_rfl) ?_
        refine VDT.new hm rfl rfl rfl (n_buildSlice1 (vs := [.slice _ _ _]) Try.underlying29 inf22 rfl rfl rfl rfl rfl rfl rfl) (fun b' w' hm' => Kept.of0 hm') ?_
        intro g8 w hm
        replace hm := hm.rot4
        refine VD.turn1 9 (by kernel_rfl) ?_
        refine VDT.appendO (s := 1) (bytes := 24) Try.underlying29 inf22 rfl rfl rfl rfl rfl rfl rfl rfl rfl rfl hm ho (Row.lit (cs := [.slice A7 m c7]) (hm.at_ 1 0 rfl)) (by simp [Value.oneCell']) rfl ⟨by unfold maxLen; omega, by omega⟩ (fun A' c' w' L' ho' hm' => Kept.of0 hm') ?_
        intro A9 c9 w L9 ho9 hm
        refine VD.pure 10 rfl (by kernel_rfl) rfl rfl (p_nilCheck rfl) ?_
        refine VD.pure 11 rfl (by kernel_rfl) rfl rfl (p_field (fo := 2) Try.underlying65 rfl Try.sizeOf29 rfl rfl rfl) ?_
        refine VD.turn1 12 (by kernel_rfl) ?_
        refine VDT.store (cs' := #[.int .i64 k.inc, .int .i64 k.peer, .slice A9 (n + 1) c9, .int .i64 k.acked, .int .i64 k.got]) (v := .slice _ _ _) Try.sizeOf29 rfl rfl rfl rfl rfl rfl hm 3 0 rfl (Nat.ble_eq.mp rfl) rfl (fun w' hm' => Kept.of0 hm') ?_
        intro w hm
        refine VD.nil (by kernel_rfl) rfl ?_
        rotate_left 1
        refine VDT.append (s := 1) (bytes := 1) Try.underlying22 inf5 rfl rfl rfl rfl rfl rfl rfl rfl rfl rfl hm (OwnS.made (c := 0) (by unfold maxLen; omega) rfl) (hr1.mono hm.fix) (bytes_one l) (Nat.zero_add m) ⟨by unfold maxLen; omega, by omega⟩ (fun A' c' w' L' ho' hm' => Kept.of0 hm') ?_
        intro A7 c7 w L7 ho7 hm
        refine VD.turn2 4 8 (by kernel_rfl) ?_ ?_
        refine VDT.val rfl rfl rfl (r_load (v := .slice _ _ _) Try.isAgg29 rfl (hm.at_ 1 0 rfl) rfl) (Kept.of0 hm) ?_
        refine VD.turn1 8 (by kernel_rfl) ?_
        refine VDT.new hm rfl rfl rfl (n_buildSlice1 (vs := [.slice _ _ _]) Try.underlying29 inf22 rfl rfl rfl rfl rfl rfl rfl) (fun b' w' hm' => Kept.of0 hm') ?_
        intro g8 w hm
        replace hm := hm.rot4
        refine VD.turn1 9 (by kernel_rfl) ?_
        refine VDT.appendO (s := 1) (bytes := 24) Try.underlying29 inf22 rfl rfl rfl rfl rfl rfl rfl rfl rfl rfl hm ho (Row.lit (cs := [.slice A7 m c7]) (hm.at_ 1 0 rfl)) (by simp [Value.oneCell']) rfl ⟨by unfold maxLen; omega, by omega⟩ (fun A' c' w' L' ho' hm' => Kept.of0 hm') ?_
        intro A9 c9 w L9 ho9 hm
        refine VD.pure 10 rfl (by kernel_rfl) rfl rfl (p_nilCheck rfl) ?_
        refine VD.pure 11 rfl (by kernel_rfl) rfl rfl (p_field (fo := 2) Try.underlying65 rfl Try.sizeOf29 rfl rfl rfl) ?_
        refine VD.turn1 12 (by kernel_rfl) ?_
        refine VDT.store (cs' := #[.int .i64 k.inc, .int .i64 k.peer, .slice A9 (n + 1) c9, .int .i64 k.acked, .int .i64 k.got]) (v := .slice _ _ _) Try.sizeOf29 rfl rfl rfl rfl rfl rfl hm 3 0 rfl (Nat.ble_eq.mp rfl) rfl (fun w' hm' => Kept.of0 hm') ?_
        intro w hm
        refine VD.nil (by kernel_rfl) rfl ?_
        rotate_left 1
        refine VDT.new hm rfl rfl rfl (n_buildSlice1 (vs := [.slice _ _ _]) Try.underlying29 inf22 rfl rfl rfl rfl rfl rfl rfl) (fun b' w' hm' => Kept.of0 hm') ?_
        intro g8 w hm
        refine VD.turn1 4 (by kernel_rfl) ?_
        refine VDT.val rfl rfl rfl (r_load (v := .slice _ _ _) Try.isAgg29 rfl (hm.at_ 2 0 rfl) rfl) (Kept.of0 hm) ?_
        replace hm := hm.rot4
        refine VD.turn1 9 (by kernel_rfl) ?_
        refine VDT.appendO (s := 1) (bytes := 24) Try.underlying29 inf22 rfl rfl rfl rfl rfl rfl rfl rfl rfl rfl hm ho (Row.lit (cs := [.slice A7 m c7]) (hm.at_ 1 0 rfl)) (by simp [Value.oneCell']) rfl ⟨by unfold maxLen; omega, by omega⟩ (fun A' c' w' L' ho' hm' => Kept.of0 hm') ?_
        intro A9 c9 w L9 ho9 hm
        refine VD.pure 10 rfl (by kernel_rfl) rfl rfl (p_nilCheck rfl) ?_
        refine VD.pure 11 rfl (by kernel_rfl) rfl rfl (p_field (fo := 2) Try.underlying65 rfl Try.sizeOf29 rfl rfl rfl) ?_
        refine VD.turn1 12 (by kernel_rfl) ?_
        refine VDT.store (cs' := #[.int .i64 k.inc, .int .i64 k.peer, .slice A9 (n + 1) c9, .int .i64 k.acked, .int .i64 k.got]) (v := .slice _ _ _) Try.sizeOf29 rfl rfl rfl rfl rfl rfl hm 3 0 rfl (Nat.ble_eq.mp rfl) rfl (fun w' hm' => Kept.of0 hm') ?_
        intro w hm
        refine VD.nil (by kernel_rfl) rfl ?_
        rotate_left 1
        all_goals
          repeat (first | refine VC.seq ?_ | refine VC.block ?_ | refine VC.skip ?_)
          refine VC.region ?_
          refine VR.pure rfl rfl (p_assignI rfl) ?_
          refine VR.nil ?_
          repeat (first | refine VC.seq ?_ | refine VC.block ?_ | refine VC.skip ?_)
          refine VC.ret ⟨_, ResOf.r1 (v := .int _ _) rfl rfl, ?_⟩
          replace hm : Mem F w (L9 :: [(g8, .cells #[.slice A7 m c7] 22 (0, 0))] :: L7 :: [(g, .cells #[.int .i64 k.inc, .int .i64 k.peer, .slice A9 (n + 1) c9, .int .i64 k.acked, .int .i64 k.got] 65 (0, 0))] :: Ls) := hm
          obtain ⟨G, hu, hm, hG⟩ := hm.pop2.swap.freeze
          refine ⟨G, _, L9, by rw [e], hu, ?_, hm.swap⟩
          rw [e]
          refine ⟨A9, n + 1, c9, ws ++ [⟨A7, m, c7, l⟩], rfl, ?_, ?_, fun b hb => ?_⟩
          · have e2 : bcells (ws ++ [⟨A7, m, c7, l⟩]) = bcells ws ++ [.slice A7 m c7] := by
              show (ws ++ [_]).flatMap Bs.cells = ws.flatMap Bs.cells ++ _
              rw [List.flatMap_append]
              rfl
            rw [e2]
            exact ho9
          · rw [List.map_append, hws]
            rfl
          · rcases List.mem_append.1 hb with hb | hb
            · exact ⟨(hwo b hb).1.mono hu.heap, (hwo b hb).2⟩
            · simp only [List.mem_singleton] at hb
              subst hb
              exact ⟨ho7.row1 hG, by simp only; omega⟩

set_option maxHeartbeats 4000000 in
theorem rout_c {F : Env} {w : World} {Ls : List Blks} {g : Nat} {k : Lk} {cs : Array Value} {L : Blks} (hm : Mem F w ([(g, .cells cs 65 (0, 0))] :: L :: Ls)) (hk : RkAt F.heap k cs L) (hko : k.ok) (ht : k.there) :
    Calls Try.prog 31 #[.pointer (some ⟨g, 0, none⟩)] w
      (Ret fun v w' => ∃ A' c' L', v = .agg #[.int .i64 k.out.from_, .int .i64 k.out.to, .int .i64 k.out.seq, .int .i64 k.out.ack, .slice A' k.out.load.length c'] ∧
        OwnS 5 1 A' k.out.load.length c' (bytes k.out.load) L' ∧ Mem F w' (L' :: [(g, .cells cs 65 (0, 0))] :: L :: Ls)) := by
  obtain ⟨A, n, c, ws, rfl, ho, hws, hwo⟩ := hk
  have hl := bcells_len ho
  unfold Lk.ok at hko
  have h' : ¬ ¬ k.there := not_not_intro ht
  refine Calls.of_vc Try.func31 rfl Try.ntmps31 rfl ?_
  repeat (first | refine VC.seq ?_ | refine VC.block ?_ | refine VC.skip ?_)
  refine VC.region ?_
  refine VR.new hm rfl rfl (n_allocG Try.zeroValue24) ?_
  intro b2 w hm
  refine VR.nil ?_
  repeat (first | refine VC.seq ?_ | refine VC.block ?_ | refine VC.skip ?_)
  refine VC.loud (Kept F ([(g, .cells #[.int .i64 k.inc, .int .i64 k.peer, .slice A n c, .int .i64 k.acked, .int .i64 k.got] 65 (0, 0))] :: L :: Ls)) [13, 14] rfl (by kernel_rfl) (Kept.here1 hm.drew) ?_
  replace hm := hm.drew
  refine VL.pure rfl rfl rfl (p_moveP rfl) ?_
  refine VL.pure rfl rfl rfl (p_nilCheck rfl) ?_
  refine VL.pure rfl rfl rfl (p_field (fo := 0) Try.underlying65 rfl Try.sizeOf3 rfl rfl rfl) ?_
  refine VL.read rfl rfl rfl (fun w' hw' => r_load (v := .int _ _) Try.isAgg3 rfl (hw'.at_ 0 0 rfl) rfl) ?_
  refine VL.pure rfl rfl rfl (p_moveP rfl) ?_
  refine VL.pure rfl rfl rfl (p_nilCheck rfl) ?_
  refine VL.pure rfl rfl rfl (p_field (fo := 1) Try.underlying65 rfl Try.sizeOf3 rfl rfl rfl) ?_
  refine VL.read rfl rfl rfl (fun w' hw' => r_load (v := .int _ _) Try.isAgg3 rfl (hw'.at_ 0 0 rfl) rfl) ?_
  refine VL.pure rfl rfl rfl (p_moveP rfl) ?_
  refine VL.pure rfl rfl rfl (p_nilCheck rfl) ?_
  refine VL.pure rfl rfl rfl (p_field (fo := 4) Try.underlying65 rfl Try.sizeOf3 rfl rfl rfl) ?_
  refine VL.read rfl rfl rfl (fun w' hw' => r_load (v := .int _ _) Try.isAgg3 rfl (hw'.at_ 0 0 rfl) rfl) ?_
  refine VL.pure rfl rfl rfl (p_build (vs := [(0, .int _ _), (1, .int _ _), (3, .int _ _)]) bld24_0_1_3 rfl) ?_
  refine VL.new hm rfl rfl rfl (n_allocG Try.zeroValue24) (fun b' w' hm' => Kept.here2 hm') ?_
  intro b3 w hm
  refine VL.store (cs' := #[.int .i64 k.inc, .int .i64 k.peer, .int .i64 0, .int .i64 k.got, .slice none 0 0]) (v := .agg _) Try.sizeOf24 rfl rfl rfl rfl rfl rfl hm 0 0 rfl (Nat.ble_eq.mp rfl) rfl (fun w' hm' => Kept.here2 hm') ?_
  intro w hm
  refine VL.nil ?_
  by_cases hp : 0 < k.peer
  · by_cases hn : 0 < n
    · obtain ⟨w0, wr, hwe⟩ : ∃ w0 wr, ws = w0 :: wr := by
        match ws, hl with
        | [], hl => simp at hl; omega
        | a :: b, _ => exact ⟨a, b, rfl⟩
      have hw0 := hwo w0 (by rw [hwe]; exact .head _)
      have hw00 : ws[0]? = some w0 := by rw [hwe]; rfl
      have hln := hw0.1.len
      have hr1 : Row F.heap w0.A (w0.n * 1) (bytes w0.bs) := by rw [Nat.mul_one]; exact hw0.1
      have hw02 := hw0.2
      have e : k.out = ⟨k.inc, k.peer, k.acked + 1, k.got, w0.bs⟩ := by
        unfold Lk.out
        rw [if_neg h', ← hws, hwe, List.map_cons]
        show (if 0 < k.peer then _ else _) = _
        rw [if_pos hp]
      obtain ⟨bw, offw, cur, rfl, rfl, hcc⟩ := ho.elem Bs.len (by decide) hn
      repeat (first | refine VC.seq ?_ | refine VC.block ?_ | refine VC.skip ?_)
      refine VC.region ?_
      refine VR.pure rfl rfl (p_moveP rfl) ?_
      refine VR.pure rfl rfl (p_nilCheck rfl) ?_
      refine VR.pure rfl rfl (p_field (fo := 1) Try.underlying65 rfl Try.sizeOf3 rfl rfl rfl) ?_
      refine VR.val rfl rfl (r_load (v := .int _ _) Try.isAgg3 rfl (hm.at_ 2 0 rfl) rfl) ?_
      refine VR.pure rfl rfl (p_gt rfl rfl) ?_
      refine VR.pure rfl rfl (p_moveB rfl) ?_
      refine VR.knownT 22 rfl (decide_eq_true hp) ?_
      refine VR.pureG rfl rfl (p_moveP rfl) ?_
      refine VR.pureG rfl rfl (p_nilCheck rfl) ?_
      refine VR.pureG rfl rfl (p_field (fo := 2) Try.underlying65 rfl Try.sizeOf29 rfl rfl rfl) ?_
      refine VR.valG rfl rfl (r_load (v := .slice _ _ _) Try.isAgg29 rfl (hm.at_ 2 0 rfl) rfl) ?_
      refine VR.pureG rfl rfl (p_len Try.underlying29 rfl) ?_
      refine VR.pureG rfl rfl (p_gt rfl rfl) ?_
      refine VR.pure rfl rfl (p_pickT rfl rfl) ?_
      refine VR.nil ?_
      repeat (first | refine VC.seq ?_ | refine VC.block ?_ | refine VC.skip ?_)
      refine VC.condT rfl (decide_eq_true (by omega)) ?_
      repeat (first | refine VC.seq ?_ | refine VC.block ?_ | refine VC.skip ?_)
      refine VC.region ?_
      refine VR.pure rfl rfl (p_moveP rfl) ?_
      refine VR.pure rfl rfl (p_nilCheck rfl) ?_
      refine VR.pure rfl rfl (p_field (fo := 3) Try.underlying65 rfl Try.sizeOf3 rfl rfl rfl) ?_
      refine VR.val rfl rfl (r_load (v := .int _ _) Try.isAgg3 rfl (hm.at_ 2 0 rfl) rfl) ?_
      refine VR.pure rfl rfl (p_add64 rfl rfl (by omega)) ?_
      refine VR.pure rfl rfl (p_field (fo := 2) Try.underlying24 rfl Try.sizeOf3 rfl rfl rfl) ?_
      refine VR.store (cs' := #[.int .i64 k.inc, .int .i64 k.peer, .int .i64 (k.acked + 1), .int .i64 k.got, .slice none 0 0]) (v := .int _ _) Try.sizeOf3 rfl rfl rfl rfl rfl hm 0 0 rfl (Nat.ble_eq.mp rfl) rfl ?_
      intro w hm
      refine VR.nil ?_
      repeat (first | refine VC.seq ?_ | refine VC.block ?_ | refine VC.skip ?_)
      refine VC.region ?_
      refine VR.new hm rfl rfl (n_buildSlice0 Try.underlying22 inf5) ?_
      intro g4 w hm
      refine VR.pure rfl rfl (p_moveP rfl) ?_
      refine VR.pure rfl rfl (p_nilCheck rfl) ?_
      refine VR.pure rfl rfl (p_field (fo := 2) Try.underlying65 rfl Try.sizeOf29 rfl rfl rfl) ?_
      refine VR.val rfl rfl (r_load (v := .slice _ _ _) Try.isAgg29 rfl (hm.at_ 3 0 rfl) rfl) ?_
      refine VR.pure rfl rfl (p_idx1 (j := 0) Try.underlying29 Try.sizeOf22 rfl rfl hn) ?_
      refine VR.val rfl rfl (r_load (v := .slice _ _ _) Try.isAgg22 rfl (hm.at_ 4 0 rfl) (hcc 0 w0 hw00 0 (by decide))) ?_
      refine VR.append (s := 1) (bytes := 1) Try.underlying22 inf5 rfl rfl rfl rfl rfl rfl rfl rfl rfl hm (OwnS.made (c := 0) (by unfold maxLen; omega) rfl) (hr1.mono hm.fix) (bytes_one w0.bs) (Nat.zero_add w0.n) ⟨by unfold maxLen; omega, by omega⟩ ?_
      intro A7 c7 w L7 ho7 hm
      refine VR.pure rfl rfl (p_field (fo := 4) Try.underlying24 rfl Try.sizeOf22 rfl rfl rfl) ?_
      refine VR.store (cs' := #[.int .i64 k.inc, .int .i64 k.peer, .int .i64 (k.acked + 1), .int .i64 k.got, .slice A7 w0.n c7]) (v := .slice _ _ _) Try.sizeOf22 rfl rfl rfl rfl rfl hm 1 0 rfl (Nat.ble_eq.mp rfl) rfl ?_
      intro w hm
      refine VR.nil ?_
      repeat (first | refine VC.seq ?_ | refine VC.block ?_ | refine VC.skip ?_)
      refine VC.region ?_
      refine VR.val rfl rfl (r_loadAgg (vs := [.int _ _, .int _ _, .int _ _, .int _ _, .slice _ _ _]) Try.isAgg24 Try.sizeOf24 rfl (hm.at_ 1 0 rfl) rfl (agg_at rfl)) ?_
      refine VR.store (cs' := #[.int .i64 k.inc, .int .i64 k.peer, .int .i64 (k.acked + 1), .int .i64 k.got, .slice A7 w0.n c7]) (v := .agg _) Try.sizeOf24 rfl rfl rfl rfl rfl hm 2 0 rfl (Nat.ble_eq.mp rfl) rfl ?_
      intro w hm
      refine VR.nil ?_
      repeat (first | refine VC.seq ?_ | refine VC.block ?_ | refine VC.skip ?_)
      refine VC.ret ⟨_, ResOf.r1 (v := .agg _) rfl ⟨_, rfl, run_loadVarAgg Try.isAgg24 Try.sizeOf24 (hm.at_ 2 0 rfl) (vs := [.int .i64 k.inc, .int .i64 k.peer, .int .i64 (k.acked + 1), .int .i64 k.got, .slice A7 w0.n c7]) rfl (agg_at rfl)⟩, ?_⟩
      rw [e]
      dsimp only
      rw [hln]
      exact ⟨A7, c7, L7, rfl, ho7, hm.pop2.pop2⟩
    · have hn0 : n = 0 := by omega
      have hwe : ws = [] := List.eq_nil_of_length_eq_zero (by omega)
      have e : k.out = ⟨k.inc, k.peer, 0, k.got, []⟩ := by
        unfold Lk.out
        rw [if_neg h', ← hws, hwe]
        rfl
      repeat (first | refine VC.seq ?_ | refine VC.block ?_ | refine VC.skip ?_)
      refine VC.region ?_
      refine VR.pure rfl rfl (p_moveP rfl) ?_
      refine VR.pure rfl rfl (p_nilCheck rfl) ?_
      refine VR.pure rfl rfl (p_field (fo := 1) Try.underlying65 rfl Try.sizeOf3 rfl rfl rfl) ?_
      refine VR.val rfl rfl (r_load (v := .int _ _) Try.isAgg3 rfl (hm.at_ 2 0 rfl) rfl) ?_
      refine VR.pure rfl rfl (p_gt rfl rfl) ?_
      refine VR.pure rfl rfl (p_moveB rfl) ?_
      refine VR.knownT 22 rfl (decide_eq_true hp) ?_
      refine VR.pureG rfl rfl (p_moveP rfl) ?_
      refine VR.pureG rfl rfl (p_nilCheck rfl) ?_
      refine VR.pureG rfl rfl (p_field (fo := 2) Try.underlying65 rfl Try.sizeOf29 rfl rfl rfl) ?_
      refine VR.valG rfl rfl (r_load (v := .slice _ _ _) Try.isAgg29 rfl (hm.at_ 2 0 rfl) rfl) ?_
      refine VR.pureG rfl rfl (p_len Try.underlying29 rfl) ?_
      refine VR.pureG rfl rfl (p_gt rfl rfl) ?_
      refine VR.pure rfl rfl (p_pickT rfl rfl) ?_
      refine VR.nil ?_
      repeat (first | refine VC.seq ?_ | refine VC.block ?_ | refine VC.skip ?_)
      refine VC.condF rfl (decide_eq_false (by omega)) ?_
      repeat (first | refine VC.seq ?_ | refine VC.block ?_ | refine VC.skip ?_)
      refine VC.region ?_
      refine VR.val rfl rfl (r_loadAgg (vs := [.int _ _, .int _ _, .int _ _, .int _ _, .slice _ _ _]) Try.isAgg24 Try.sizeOf24 rfl (hm.at_ 0 0 rfl) rfl (agg_at rfl)) ?_
      refine VR.store (cs' := #[.int .i64 k.inc, .int .i64 k.peer, .int .i64 0, .int .i64 k.got, .slice none 0 0]) (v := .agg _) Try.sizeOf24 rfl rfl rfl rfl rfl hm 1 0 rfl (Nat.ble_eq.mp rfl) rfl ?_
      intro w hm
      refine VR.nil ?_
      repeat (first | refine VC.seq ?_ | refine VC.block ?_ | refine VC.skip ?_)
      refine VC.ret ⟨_, ResOf.r1 (v := .agg _) rfl ⟨_, rfl, run_loadVarAgg Try.isAgg24 Try.sizeOf24 (hm.at_ 1 0 rfl) (vs := [.int .i64 k.inc, .int .i64 k.peer, .int .i64 0, .int .i64 k.got, .slice none 0 0]) rfl (agg_at rfl)⟩, ?_⟩
      rw [e]
      exact ⟨none, 0, [], rfl, OwnS.nil _ _, hm.pop.pop.nil_⟩
  · have e : k.out = ⟨k.inc, k.peer, 0, k.got, []⟩ := by
      unfold Lk.out
      rw [if_neg h']
      cases k.wait with
      | nil => rfl
      | cons a b =>
        show (if 0 < k.peer then _ else _) = _
        rw [if_neg hp]
    repeat (first | refine VC.seq ?_ | refine VC.block ?_ | refine VC.skip ?_)
    refine VC.region ?_
    refine VR.pure rfl rfl (p_moveP rfl) ?_
    refine VR.pure rfl rfl (p_nilCheck rfl) ?_
    refine VR.pure rfl rfl (p_field (fo := 1) Try.underlying65 rfl Try.sizeOf3 rfl rfl rfl) ?_
    refine VR.val rfl rfl (r_load (v := .int _ _) Try.isAgg3 rfl (hm.at_ 2 0 rfl) rfl) ?_
    refine VR.pure rfl rfl (p_gt rfl rfl) ?_
    refine VR.pure rfl rfl (p_moveB rfl) ?_
    refine VR.knownF 22 rfl (decide_eq_false hp) ?_
    refine VR.pass rfl rfl ?_
    refine VR.pass rfl rfl ?_
    refine VR.pass rfl rfl ?_
    refine VR.pass rfl rfl ?_
    refine VR.pass rfl rfl ?_
    refine VR.pass rfl rfl ?_
    refine VR.pure rfl rfl (p_pickF rfl rfl) ?_
    refine VR.nil ?_
    repeat (first | refine VC.seq ?_ | refine VC.block ?_ | refine VC.skip ?_)
    refine VC.condF rfl rfl ?_
    repeat (first | refine VC.seq ?_ | refine VC.block ?_ | refine VC.skip ?_)
    refine VC.region ?_
    refine VR.val rfl rfl (r_loadAgg (vs := [.int _ _, .int _ _, .int _ _, .int _ _, .slice _ _ _]) Try.isAgg24 Try.sizeOf24 rfl (hm.at_ 0 0 rfl) rfl (agg_at rfl)) ?_
    refine VR.store (cs' := #[.int .i64 k.inc, .int .i64 k.peer, .int .i64 0, .int .i64 k.got, .slice none 0 0]) (v := .agg _) Try.sizeOf24 rfl rfl rfl rfl rfl hm 1 0 rfl (Nat.ble_eq.mp rfl) rfl ?_
    intro w hm
    refine VR.nil ?_
    repeat (first | refine VC.seq ?_ | refine VC.block ?_ | refine VC.skip ?_)
    refine VC.ret ⟨_, ResOf.r1 (v := .agg _) rfl ⟨_, rfl, run_loadVarAgg Try.isAgg24 Try.sizeOf24 (hm.at_ 1 0 rfl) (vs := [.int .i64 k.inc, .int .i64 k.peer, .int .i64 0, .int .i64 k.got, .slice none 0 0]) rfl (agg_at rfl)⟩, ?_⟩
    rw [e]
    exact ⟨none, 0, [], rfl, OwnS.nil _ _, hm.pop.pop.nil_⟩

set_option maxHeartbeats 4000000 in
theorem rtake_c {F : Env} {w : World} {Ls : List Blks} {g : Nat} {k : Lk} {cs : Array Value} {L : Blks} {p : Pk} {B : Option Addr} {m d : Nat} (hm : Mem F w ([(g, .cells cs 65 (0, 0))] :: L :: Ls)) (hk : RkAt F.heap k cs L) (hko : k.ok) (ht : k.there)
    (hr : BRow F.heap B m p.load) (hm48 : m ≤ 140737488355328) :
    Calls Try.prog 27 #[.pointer (some ⟨g, 0, none⟩), .agg #[.int .i64 p.from_, .int .i64 p.to, .int .i64 p.seq, .int .i64 p.ack, .slice B m d]] w
      (Ret fun v w' => ∃ cs' L' A' c' L'', v = .tuple #[.slice A' ((k.take p).1.getD []).length c', .bool (k.take p).1.isSome, .bool (k.take p).2.1] ∧ RkAt F.heap (k.take p).2.2 cs' L' ∧
        OwnS 5 1 A' ((k.take p).1.getD []).length c' (bytes ((k.take p).1.getD [])) L'' ∧ Mem F w' (L'' :: [(g, .cells cs' 65 (0, 0))] :: L' :: Ls)) := by
  have hk0 := hk
  obtain ⟨A, n, c, ws, rfl, ho, hws, hwo⟩ := hk
  have hl := bcells_len ho
  have hml := hr.len
  have hr1 : Row F.heap B (m * 1) (bytes p.load) := by rw [Nat.mul_one]; exact hr
  refine Calls.of_vc Try.func27 rfl Try.ntmps27 rfl ?_
  repeat (first | refine VC.seq ?_ | refine VC.block ?_ | refine VC.skip ?_)
  refine VC.region ?_
  refine VR.new hm rfl rfl (n_boxG rfl) ?_
  intro b3 w hm
  refine VR.pure rfl rfl (p_assignL rfl) ?_
  refine VR.pure rfl rfl (p_assignB rfl) ?_
  refine VR.pure rfl rfl (p_assignB rfl) ?_
  refine VR.nil ?_
  repeat (first | refine VC.seq ?_ | refine VC.block ?_ | refine VC.skip ?_)
  refine VC.loud (Kept F ([(b3, .cells #[.int .i64 p.from_, .int .i64 p.to, .int .i64 p.seq, .int .i64 p.ack, .slice B m d] 24 (0, 0))] :: [(g, .cells #[.int .i64 k.inc, .int .i64 k.peer, .slice A n c, .int .i64 k.acked, .int .i64 k.got] 65 (0, 0))] :: L :: Ls)) [] rfl (by kernel_rfl) (Kept.here0 hm.drew) ?_
  replace hm := hm.drew
  refine VL.pure rfl rfl rfl (p_field (fo := 0) Try.underlying24 rfl Try.sizeOf3 rfl rfl rfl) ?_
  refine VL.read rfl rfl rfl (fun w' hw' => r_load (v := .int _ _) Try.isAgg3 rfl (hw'.at_ 0 0 rfl) rfl) ?_
  refine VL.pure rfl rfl rfl (p_lt rfl rfl) ?_
  refine VL.pure rfl rfl rfl (p_moveB rfl) ?_
  refine VL.splitD 11 rfl (fun h2 => ?_) (fun h2 => ?_)
  refine VL.pass rfl rfl ?_
  refine VL.pass rfl rfl ?_
  refine VL.pass rfl rfl ?_
  refine VL.pass rfl rfl ?_
  refine VL.pass rfl rfl ?_
  refine VL.pass rfl rfl ?_
  refine VL.pass rfl rfl ?_
  refine VL.pure rfl rfl rfl (p_pickT rfl rfl) ?_
  refine VL.nil ?_
  rotate_left 1
  refine VL.pureG rfl rfl rfl (p_field (fo := 0) Try.underlying24 rfl Try.sizeOf3 rfl rfl rfl) ?_
  refine VL.readG rfl rfl rfl (fun w' hw' => r_load (v := .int _ _) Try.isAgg3 rfl (hw'.at_ 0 0 rfl) rfl) ?_
  refine VL.pureG rfl rfl rfl (p_moveP rfl) ?_
  refine VL.pureG rfl rfl rfl (p_nilCheck rfl) ?_
  refine VL.pureG rfl rfl rfl (p_field (fo := 1) Try.underlying65 rfl Try.sizeOf3 rfl rfl rfl) ?_
  refine VL.readG rfl rfl rfl (fun w' hw' => r_load (v := .int _ _) Try.isAgg3 rfl (hw'.at_ 1 0 rfl) rfl) ?_
  refine VL.pureG rfl rfl rfl (p_lt rfl rfl) ?_
  refine VL.pure rfl rfl rfl (p_pickF rfl rfl) ?_
  refine VL.nil ?_
  rotate_left 1
  · have e : k.take p = (none, false, k) := by unfold Lk.take; rw [if_pos (.inr (.inl h2))]
    repeat (first | refine VC.seq ?_ | refine VC.block ?_ | refine VC.skip ?_)
    refine VC.condT rfl rfl ?_
    repeat (first | refine VC.seq ?_ | refine VC.block ?_ | refine VC.skip ?_)
    refine VC.region ?_
    refine VR.pure rfl rfl (p_assignL rfl) ?_
    refine VR.pure rfl rfl (p_assignB rfl) ?_
    refine VR.pure rfl rfl (p_assignB rfl) ?_
    refine VR.nil ?_
    repeat (first | refine VC.seq ?_ | refine VC.block ?_ | refine VC.skip ?_)
    refine VC.ret ⟨_, ResOf.r3 (v := .slice _ _ _) (u := .bool _) (x := .bool _) rfl rfl rfl rfl, ?_⟩
    rw [e]
    exact ⟨_, L, none, 0, [], rfl, hk0, OwnS.nil _ _, hm.pop.nil_⟩
  · repeat (first | refine VC.seq ?_ | refine VC.block ?_ | refine VC.skip ?_)
    refine VC.condD rfl (fun h3 => ?_) (fun h3 => ?_)
    · have e : k.take p = (none, false, k) := by unfold Lk.take; rw [if_pos (.inr (.inr h3))]
      repeat (first | refine VC.seq ?_ | refine VC.block ?_ | refine VC.skip ?_)
      refine VC.region ?_
      refine VR.pure rfl rfl (p_assignL rfl) ?_
      refine VR.pure rfl rfl (p_assignB rfl) ?_
      refine VR.pure rfl rfl (p_assignB rfl) ?_
      refine VR.nil ?_
      repeat (first | refine VC.seq ?_ | refine VC.block ?_ | refine VC.skip ?_)
      refine VC.ret ⟨_, ResOf.r3 (v := .slice _ _ _) (u := .bool _) (x := .bool _) rfl rfl rfl rfl, ?_⟩
      rw [e]
      exact ⟨_, L, none, 0, [], rfl, hk0, OwnS.nil _ _, hm.pop.nil_⟩
    · have h0 : ¬ (¬ k.there ∨ p.from_ < 1 ∨ p.from_ < k.peer) := by
        rintro (h | h | h)
        · exact h ht
        · exact h2 h
        · exact h3 h
      repeat (first | refine VC.seq ?_ | refine VC.block ?_ | refine VC.skip ?_)
      refine VC.region ?_
      refine VR.pure rfl rfl (p_assignB rfl) ?_
      refine VR.nil ?_
      repeat (first | refine VC.seq ?_ | refine VC.block ?_ | refine VC.skip ?_)
      refine VC.loud (Kept F ([(b3, .cells #[.int .i64 p.from_, .int .i64 p.to, .int .i64 p.seq, .int .i64 p.ack, .slice B m d] 24 (0, 0))] :: [(g, .cells #[.int .i64 k.inc, .int .i64 k.peer, .slice A n c, .int .i64 k.acked, .int .i64 k.got] 65 (0, 0))] :: L :: Ls)) [] rfl (by kernel_rfl) (Kept.here0 hm.drew) ?_
      replace hm := hm.drew
      refine VL.pure rfl rfl rfl (p_field (fo := 0) Try.underlying24 rfl Try.sizeOf3 rfl rfl rfl) ?_
      refine VL.read rfl rfl rfl (fun w' hw' => r_load (v := .int _ _) Try.isAgg3 rfl (hw'.at_ 0 0 rfl) rfl) ?_
      refine VL.pure rfl rfl rfl (p_moveP rfl) ?_
      refine VL.pure rfl rfl rfl (p_nilCheck rfl) ?_
      refine VL.pure rfl rfl rfl (p_field (fo := 1) Try.underlying65 rfl Try.sizeOf3 rfl rfl rfl) ?_
      refine VL.read rfl rfl rfl (fun w' hw' => r_load (v := .int _ _) Try.isAgg3 rfl (hw'.at_ 1 0 rfl) rfl) ?_
      refine VL.pure rfl rfl rfl (p_gt rfl rfl) ?_
      refine VL.nil ?_
      repeat (first | refine VC.seq ?_ | refine VC.block ?_ | refine VC.skip ?_)
      refine VC.meet (σ := Array Value × Blks × Bool) (fun s => [(0, .pointer (some ⟨g, 0, none⟩)), (3, .pointer (some ⟨b3, 0, none⟩)), (7, .bool s.2.2)])
        (fun s w => Mem F w ([(b3, .cells #[.int .i64 p.from_, .int .i64 p.to, .int .i64 p.seq, .int .i64 p.ack, .slice B m d] 24 (0, 0))] :: [(g, .cells s.1 65 (0, 0))] :: s.2.1 :: Ls) ∧ RkAt F.heap (k.meet p).1 s.1 s.2.1 ∧ s.2.2 = (k.meet p).2) ?_ ?_
      · refine VC.condD rfl (fun h4 => ?_) (fun h4 => ?_)
        · repeat (first | refine VC.seq ?_ | refine VC.block ?_ | refine VC.skip ?_)
          refine VC.region ?_
          refine VR.pure rfl rfl (p_moveP rfl) ?_
          refine VR.pure rfl rfl (p_nilCheck rfl) ?_
          refine VR.pure rfl rfl (p_field (fo := 1) Try.underlying65 rfl Try.sizeOf3 rfl rfl rfl) ?_
          refine VR.val rfl rfl (r_load (v := .int _ _) Try.isAgg3 rfl (hm.at_ 1 0 rfl) rfl) ?_
          refine VR.pure rfl rfl (p_gt rfl rfl) ?_
          refine VR.nil ?_
          repeat (first | refine VC.seq ?_ | refine VC.block ?_ | refine VC.skip ?_)
          refine VC.condD rfl (fun h5 => ?_) (fun h5 => ?_)
          · have em : k.meet p = (⟨k.inc, p.from_, 0, 0, []⟩, true) := by unfold Lk.meet; rw [if_pos h4, if_pos h5]
            repeat (first | refine VC.seq ?_ | refine VC.block ?_ | refine VC.skip ?_)
            refine VC.region ?_
            refine VR.pure rfl rfl (p_assignB rfl) ?_
            refine VR.nil ?_
            repeat (first | refine VC.seq ?_ | refine VC.block ?_ | refine VC.skip ?_)
            refine VC.region ?_
            refine VR.pure rfl rfl (p_moveP rfl) ?_
            refine VR.pure rfl rfl (p_nilCheck rfl) ?_
            refine VR.pure rfl rfl (p_field (fo := 2) Try.underlying65 rfl Try.sizeOf29 rfl rfl rfl) ?_
            refine VR.store (cs' := #[.int .i64 k.inc, .int .i64 k.peer, .slice none 0 0, .int .i64 k.acked, .int .i64 k.got]) (v := .slice _ _ _) Try.sizeOf29 rfl rfl rfl rfl rfl hm 1 0 rfl (Nat.ble_eq.mp rfl) rfl ?_
            intro w hm
            refine VR.nil ?_
            repeat (first | refine VC.seq ?_ | refine VC.block ?_ | refine VC.skip ?_)
            refine VC.region ?_
            refine VR.pure rfl rfl (p_moveP rfl) ?_
            refine VR.pure rfl rfl (p_field (fo := 0) Try.underlying24 rfl Try.sizeOf3 rfl rfl rfl) ?_
            refine VR.val rfl rfl (r_load (v := .int _ _) Try.isAgg3 rfl (hm.at_ 0 0 rfl) rfl) ?_
            refine VR.pure rfl rfl (p_nilCheck rfl) ?_
            refine VR.pure rfl rfl (p_field (fo := 1) Try.underlying65 rfl Try.sizeOf3 rfl rfl rfl) ?_
            refine VR.store (cs' := #[.int .i64 k.inc, .int .i64 p.from_, .slice none 0 0, .int .i64 k.acked, .int .i64 k.got]) (v := .int _ _) Try.sizeOf3 rfl rfl rfl rfl rfl hm 1 0 rfl (Nat.ble_eq.mp rfl) rfl ?_
            intro w hm
            refine VR.nil ?_
            repeat (first | refine VC.seq ?_ | refine VC.block ?_ | refine VC.skip ?_)
            refine VC.region ?_
            refine VR.pure rfl rfl (p_moveP rfl) ?_
            refine VR.pure rfl rfl (p_nilCheck rfl) ?_
            refine VR.pure rfl rfl (p_field (fo := 3) Try.underlying65 rfl Try.sizeOf3 rfl rfl rfl) ?_
            refine VR.store (cs' := #[.int .i64 k.inc, .int .i64 p.from_, .slice none 0 0, .int .i64 0, .int .i64 k.got]) (v := .int _ _) Try.sizeOf3 rfl rfl rfl rfl rfl hm 1 0 rfl (Nat.ble_eq.mp rfl) rfl ?_
            intro w hm
            refine VR.nil ?_
            repeat (first | refine VC.seq ?_ | refine VC.block ?_ | refine VC.skip ?_)
            refine VC.region ?_
            refine VR.pure rfl rfl (p_moveP rfl) ?_
            refine VR.pure rfl rfl (p_nilCheck rfl) ?_
            refine VR.pure rfl rfl (p_field (fo := 4) Try.underlying65 rfl Try.sizeOf3 rfl rfl rfl) ?_
            refine VR.store (cs' := #[.int .i64 k.inc, .int .i64 p.from_, .slice none 0 0, .int .i64 0, .int .i64 0]) (v := .int _ _) Try.sizeOf3 rfl rfl rfl rfl rfl hm 1 0 rfl (Nat.ble_eq.mp rfl) rfl ?_
            intro w hm
            refine VR.nil ?_
            rw [em]
            replace hm : Mem F w ([(b3, .cells #[.int .i64 p.from_, .int .i64 p.to, .int .i64 p.seq, .int .i64 p.ack, .slice B m d] 24 (0, 0))] :: [(g, .cells #[.int .i64 k.inc, .int .i64 p.from_, .slice none 0 0, .int .i64 0, .int .i64 0] 65 (0, 0))] :: L :: Ls) := hm
            exact ⟨(#[.int .i64 k.inc, .int .i64 p.from_, .slice none 0 0, .int .i64 0, .int .i64 0], [], true), ⟨rfl, rfl, rfl, trivial⟩, hm.rot3.pop.nil_.rot3.rot3, ⟨none, 0, 0, [], rfl, OwnO.nil _ _, rfl, fun b hb => by simp at hb⟩, rfl⟩
          · have em : k.meet p = (⟨k.inc, p.from_, 0, 0, k.wait⟩, false) := by unfold Lk.meet; rw [if_pos h4, if_neg h5]
            repeat (first | refine VC.seq ?_ | refine VC.block ?_ | refine VC.skip ?_)
            refine VC.region ?_
            refine VR.pure rfl rfl (p_moveP rfl) ?_
            refine VR.pure rfl rfl (p_field (fo := 0) Try.underlying24 rfl Try.sizeOf3 rfl rfl rfl) ?_
            refine VR.val rfl rfl (r_load (v := .int _ _) Try.isAgg3 rfl (hm.at_ 0 0 rfl) rfl) ?_
            refine VR.pure rfl rfl (p_nilCheck rfl) ?_
            refine VR.pure rfl rfl (p_field (fo := 1) Try.underlying65 rfl Try.sizeOf3 rfl rfl rfl) ?_
            refine VR.store (cs' := #[.int .i64 k.inc, .int .i64 p.from_, .slice A n c, .int .i64 k.acked, .int .i64 k.got]) (v := .int _ _) Try.sizeOf3 rfl rfl rfl rfl rfl hm 1 0 rfl (Nat.ble_eq.mp rfl) rfl ?_
            intro w hm
            refine VR.nil ?_
            repeat (first | refine VC.seq ?_ | refine VC.block ?_ | refine VC.skip ?_)
            refine VC.region ?_
            refine VR.pure rfl rfl (p_moveP rfl) ?_
            refine VR.pure rfl rfl (p_nilCheck rfl) ?_
            refine VR.pure rfl rfl (p_field (fo := 3) Try.underlying65 rfl Try.sizeOf3 rfl rfl rfl) ?_
            refine VR.store (cs' := #[.int .i64 k.inc, .int .i64 p.from_, .slice A n c, .int .i64 0, .int .i64 k.got]) (v := .int _ _) Try.sizeOf3 rfl rfl rfl rfl rfl hm 1 0 rfl (Nat.ble_eq.mp rfl) rfl ?_
            intro w hm
            refine VR.nil ?_
            repeat (first | refine VC.seq ?_ | refine VC.block ?_ | refine VC.skip ?_)
            refine VC.region ?_
            refine VR.pure rfl rfl (p_moveP rfl) ?_
            refine VR.pure rfl rfl (p_nilCheck rfl) ?_
            refine VR.pure rfl rfl (p_field (fo := 4) Try.underlying65 rfl Try.sizeOf3 rfl rfl rfl) ?_
            refine VR.store (cs' := #[.int .i64 k.inc, .int .i64 p.from_, .slice A n c, .int .i64 0, .int .i64 0]) (v := .int _ _) Try.sizeOf3 rfl rfl rfl rfl rfl hm 1 0 rfl (Nat.ble_eq.mp rfl) rfl ?_
            intro w hm
            refine VR.nil ?_
            rw [em]
            exact ⟨(#[.int .i64 k.inc, .int .i64 p.from_, .slice A n c, .int .i64 0, .int .i64 0], L, false), ⟨rfl, rfl, rfl, trivial⟩, hm, ⟨A, n, c, ws, rfl, ho, hws, hwo⟩, rfl⟩
        · have em : k.meet p = (k, false) := by unfold Lk.meet; rw [if_neg h4]
          repeat (first | refine VC.seq ?_ | refine VC.block ?_ | refine VC.skip ?_)
          rw [em]
          exact ⟨(#[.int .i64 k.inc, .int .i64 k.peer, .slice A n c, .int .i64 k.acked, .int .i64 k.got], L, false), ⟨rfl, rfl, rfl, trivial⟩, hm, hk0, rfl⟩
      clear hm hk0 ho hws hwo hl
      rintro ⟨cs1, L1, broke⟩ A' w ⟨hm, hk1, hbr⟩
      dsimp only at hm hk1 hbr ⊢
      have hinc := meet_inc k p
      have hok1 := meet_ok p hko
      unfold Lk.take
      rw [if_neg h0]
      subst hbr
      generalize (k.meet p).2 = broke at hm ⊢
      generalize (k.meet p).1 = k1 at hk1 hinc hok1 hm ⊢
      have hk10 := hk1
      obtain ⟨A1, n1, c1, ws1, rfl, ho1, hws1, hwo1⟩ := hk1
      have hl1 := bcells_len ho1
      have hwl1 : k1.wait.length = n1 := by rw [← hws1, List.length_map, hl1]
      have hok1' := hok1
      unfold Lk.ok at hok1'
      repeat (first | refine VC.seq ?_ | refine VC.block ?_ | refine VC.skip ?_)
      refine VC.loud (Kept F ([(b3, .cells #[.int .i64 p.from_, .int .i64 p.to, .int .i64 p.seq, .int .i64 p.ack, .slice B m d] 24 (0, 0))] :: [(g, .cells #[.int .i64 k1.inc, .int .i64 k1.peer, .slice A1 n1 c1, .int .i64 k1.acked, .int .i64 k1.got] 65 (0, 0))] :: L1 :: Ls)) [] rfl (by kernel_rfl) (Kept.here0 hm.drew) ?_
      replace hm := hm.drew
      refine VL.pure rfl rfl rfl (p_field (fo := 1) Try.underlying24 rfl Try.sizeOf3 rfl rfl rfl) ?_
      refine VL.read rfl rfl rfl (fun w' hw' => r_load (v := .int _ _) Try.isAgg3 rfl (hw'.at_ 0 0 rfl) rfl) ?_
      refine VL.pure rfl rfl rfl (p_moveP rfl) ?_
      refine VL.pure rfl rfl rfl (p_nilCheck rfl) ?_
      refine VL.pure rfl rfl rfl (p_field (fo := 0) Try.underlying65 rfl Try.sizeOf3 rfl rfl rfl) ?_
      refine VL.read rfl rfl rfl (fun w' hw' => r_load (v := .int _ _) Try.isAgg3 rfl (hw'.at_ 1 0 rfl) rfl) ?_
      refine VL.pure rfl rfl rfl (p_ne rfl rfl) ?_
      refine VL.nil ?_
      repeat (first | refine VC.seq ?_ | refine VC.block ?_ | refine VC.skip ?_)
      refine VC.condD rfl (fun h4 => ?_) (fun h4 => ?_)
      · repeat (first | refine VC.seq ?_ | refine VC.block ?_ | refine VC.skip ?_)
        refine VC.region ?_
        refine VR.pure rfl rfl (p_moveB rfl) ?_
        refine VR.pure rfl rfl (p_assignL rfl) ?_
        refine VR.pure rfl rfl (p_assignB rfl) ?_
        refine VR.pure rfl rfl (p_assignB rfl) ?_
        refine VR.nil ?_
        repeat (first | refine VC.seq ?_ | refine VC.block ?_ | refine VC.skip ?_)
        refine VC.ret ⟨_, ResOf.r3 (v := .slice _ _ _) (u := .bool _) (x := .bool _) rfl rfl rfl rfl, ?_⟩
        rw [if_pos (by rw [← hinc]; exact h4)]
        exact ⟨_, L1, none, 0, [], rfl, hk10, OwnS.nil _ _, hm.pop.nil_⟩
      · rw [if_neg (by rw [← hinc]; exact h4)]
        repeat (first | refine VC.seq ?_ | refine VC.block ?_ | refine VC.skip ?_)
        refine VC.meet (σ := Bool) (fun b => [(0, .pointer (some ⟨g, 0, none⟩)), (3, .pointer (some ⟨b3, 0, none⟩)), (7, .bool broke), (69, .bool b)])
          (fun b w => Mem F w ([(b3, .cells #[.int .i64 p.from_, .int .i64 p.to, .int .i64 p.seq, .int .i64 p.ack, .slice B m d] 24 (0, 0))] :: [(g, .cells #[.int .i64 k1.inc, .int .i64 k1.peer, .slice A1 n1 c1, .int .i64 k1.acked, .int .i64 k1.got] 65 (0, 0))] :: L1 :: Ls) ∧ b = decide (p.ack = k1.acked + 1 ∧ 0 < n1)) ?_ ?_
        · repeat (first | refine VC.seq ?_ | refine VC.block ?_ | refine VC.skip ?_)
          refine VC.loud (Kept F ([(b3, .cells #[.int .i64 p.from_, .int .i64 p.to, .int .i64 p.seq, .int .i64 p.ack, .slice B m d] 24 (0, 0))] :: [(g, .cells #[.int .i64 k1.inc, .int .i64 k1.peer, .slice A1 n1 c1, .int .i64 k1.acked, .int .i64 k1.got] 65 (0, 0))] :: L1 :: Ls)) [] rfl (by kernel_rfl) (Kept.here0 hm.drew) ?_
          replace hm := hm.drew
          refine VL.pure rfl rfl rfl (p_field (fo := 3) Try.underlying24 rfl Try.sizeOf3 rfl rfl rfl) ?_
          refine VL.read rfl rfl rfl (fun w' hw' => r_load (v := .int _ _) Try.isAgg3 rfl (hw'.at_ 0 0 rfl) rfl) ?_
          refine VL.pure rfl rfl rfl (p_moveP rfl) ?_
          refine VL.pure rfl rfl rfl (p_nilCheck rfl) ?_
          refine VL.pure rfl rfl rfl (p_field (fo := 3) Try.underlying65 rfl Try.sizeOf3 rfl rfl rfl) ?_
          refine VL.read rfl rfl rfl (fun w' hw' => r_load (v := .int _ _) Try.isAgg3 rfl (hw'.at_ 1 0 rfl) rfl) ?_
          refine VL.pure rfl rfl rfl (p_add64 rfl rfl (by omega)) ?_
          refine VL.pure rfl rfl rfl (p_eq rfl rfl) ?_
          refine VL.pure rfl rfl rfl (p_moveB rfl) ?_
          refine VL.splitD 62 rfl (fun h6 => ?_) (fun h6 => ?_)
          refine VL.pureG rfl rfl rfl (p_moveP rfl) ?_
          refine VL.pureG rfl rfl rfl (p_nilCheck rfl) ?_
          refine VL.pureG rfl rfl rfl (p_field (fo := 2) Try.underlying65 rfl Try.sizeOf29 rfl rfl rfl) ?_
          refine VL.readG rfl rfl rfl (fun w' hw' => r_load (v := .slice _ _ _) Try.isAgg29 rfl (hw'.at_ 1 0 rfl) rfl) ?_
          refine VL.pureG rfl rfl rfl (p_len Try.underlying29 rfl) ?_
          refine VL.pureG rfl rfl rfl (p_gt rfl rfl) ?_
          refine VL.pure rfl rfl rfl (p_pickT rfl rfl) ?_
          refine VL.nil ?_
          rotate_left 1
          refine VL.pass rfl rfl ?_
          refine VL.pass rfl rfl ?_
          refine VL.pass rfl rfl ?_
          refine VL.pass rfl rfl ?_
          refine VL.pass rfl rfl ?_
          refine VL.pass rfl rfl ?_
          refine VL.pure rfl rfl rfl (p_pickF rfl rfl) ?_
          refine VL.nil ?_
          rotate_left 1
          · exact ⟨_, ⟨rfl, rfl, rfl, rfl, trivial⟩, hm, decide_eq_decide.2 (by omega)⟩
          · exact ⟨_, ⟨rfl, rfl, rfl, rfl, trivial⟩, hm, (decide_eq_false (by omega)).symm⟩
        clear hm
        rintro b A' w ⟨hm, rfl⟩
        repeat (first | refine VC.seq ?_ | refine VC.block ?_ | refine VC.skip ?_)
        refine VC.meet (σ := Array Value × Blks) (fun s => [(0, .pointer (some ⟨g, 0, none⟩)), (3, .pointer (some ⟨b3, 0, none⟩)), (7, .bool broke)])
          (fun s w => Mem F w ([(b3, .cells #[.int .i64 p.from_, .int .i64 p.to, .int .i64 p.seq, .int .i64 p.ack, .slice B m d] 24 (0, 0))] :: [(g, .cells s.1 65 (0, 0))] :: s.2 :: Ls) ∧ RkAt F.heap (k1.done p) s.1 s.2) ?_ ?_
        · refine VC.condD rfl (fun h6 => ?_) (fun h6 => ?_)
          · have hw0 : k1.wait ≠ [] := fun e => by rw [e] at hwl1; simp at hwl1; omega
            have ed : k1.done p = ⟨k1.inc, k1.peer, k1.acked + 1, k1.got, k1.wait.tail⟩ := by unfold Lk.done; rw [if_pos ⟨h6.1, hw0⟩]
            obtain ⟨A2, hA2, ho2⟩ := ho1.drop (l := 1) (by omega)
            repeat (first | refine VC.seq ?_ | refine VC.block ?_ | refine VC.skip ?_)
            refine VC.region ?_
            refine VR.pure rfl rfl (p_moveP rfl) ?_
            refine VR.pure rfl rfl (p_moveP rfl) ?_
            refine VR.pure rfl rfl (p_nilCheck rfl) ?_
            refine VR.pure rfl rfl (p_field (fo := 2) Try.underlying65 rfl Try.sizeOf29 rfl rfl rfl) ?_
            refine VR.val rfl rfl (r_load (v := .slice _ _ _) Try.isAgg29 rfl (hm.at_ 1 0 rfl) rfl) ?_
            refine VR.pure rfl rfl (p_sliceLE (l := 1) Try.underlying29 Try.sizeOf22 rfl rfl (by omega) hA2 rfl rfl) ?_
            refine VR.pure rfl rfl (p_nilCheck rfl) ?_
            refine VR.pure rfl rfl (p_field (fo := 2) Try.underlying65 rfl Try.sizeOf29 rfl rfl rfl) ?_
            refine VR.store (cs' := #[.int .i64 k1.inc, .int .i64 k1.peer, .slice A2 (n1 - 1) (c1 - 1), .int .i64 k1.acked, .int .i64 k1.got]) (v := .slice _ _ _) Try.sizeOf29 rfl rfl rfl rfl rfl hm 1 0 rfl (Nat.ble_eq.mp rfl) rfl ?_
            intro w hm
            refine VR.nil ?_
            repeat (first | refine VC.seq ?_ | refine VC.block ?_ | refine VC.skip ?_)
            refine VC.region ?_
            refine VR.pure rfl rfl (p_moveP rfl) ?_
            refine VR.pure rfl rfl (p_nilCheck rfl) ?_
            refine VR.pure rfl rfl (p_field (fo := 3) Try.underlying65 rfl Try.sizeOf3 rfl rfl rfl) ?_
            refine VR.val rfl rfl (r_load (v := .int _ _) Try.isAgg3 rfl (hm.at_ 1 0 rfl) rfl) ?_
            refine VR.pure rfl rfl (p_add64 rfl rfl (by omega)) ?_
            refine VR.pure rfl rfl (p_nilCheck rfl) ?_
            refine VR.pure rfl rfl (p_field (fo := 3) Try.underlying65 rfl Try.sizeOf3 rfl rfl rfl) ?_
            refine VR.store (cs' := #[.int .i64 k1.inc, .int .i64 k1.peer, .slice A2 (n1 - 1) (c1 - 1), .int .i64 (k1.acked + 1), .int .i64 k1.got]) (v := .int _ _) Try.sizeOf3 rfl rfl rfl rfl rfl hm 1 0 rfl (Nat.ble_eq.mp rfl) rfl ?_
            intro w hm
            refine VR.nil ?_
            rw [ed]
            refine ⟨(_, L1), ⟨rfl, rfl, rfl, trivial⟩, hm, A2, n1 - 1, c1 - 1, ws1.tail, rfl, ?_, ?_, fun b hb => hwo1 b (List.mem_of_mem_tail hb)⟩
            · have e2 : bcells ws1.tail = (bcells ws1).drop (1 * 1) := by
                cases ws1 with
                | nil => rfl
                | cons a r => rfl
              rw [e2]
              exact ho2
            · rw [← hws1]
              cases ws1 with
              | nil => rfl
              | cons a r => rfl
          · have ed : k1.done p = k1 := by
              unfold Lk.done
              rw [if_neg]
              rintro ⟨h7, h8⟩
              refine h6 ⟨h7, ?_⟩
              rw [← hwl1]
              exact List.length_pos_iff.2 h8
            repeat (first | refine VC.seq ?_ | refine VC.block ?_ | refine VC.skip ?_)
            rw [ed]
            exact ⟨(_, L1), ⟨rfl, rfl, rfl, trivial⟩, hm, hk10⟩
        clear hm hk10 ho1 hws1 hwo1 hl1 hwl1
        rintro ⟨cs2, L2⟩ A' w ⟨hm, hk2⟩
        dsimp only at hm hk2 ⊢
        have hok2 := done_ok p hok1
        generalize k1.done p = k2 at hm hk2 hok2 ⊢
        have hk20 := hk2
        obtain ⟨A2, n2, c2, ws2, rfl, ho2, hws2, hwo2⟩ := hk2
        repeat (first | refine VC.seq ?_ | refine VC.block ?_ | refine VC.skip ?_)
        refine VC.loud (Kept F ([(b3, .cells #[.int .i64 p.from_, .int .i64 p.to, .int .i64 p.seq, .int .i64 p.ack, .slice B m d] 24 (0, 0))] :: [(g, .cells #[.int .i64 k2.inc, .int .i64 k2.peer, .slice A2 n2 c2, .int .i64 k2.acked, .int .i64 k2.got] 65 (0, 0))] :: L2 :: Ls)) [] rfl (by kernel_rfl) (Kept.here0 hm.drew) ?_
        replace hm := hm.drew
        refine VL.pure rfl rfl rfl (p_field (fo := 2) Try.underlying24 rfl Try.sizeOf3 rfl rfl rfl) ?_
        refine VL.read rfl rfl rfl (fun w' hw' => r_load (v := .int _ _) Try.isAgg3 rfl (hw'.at_ 0 0 rfl) rfl) ?_
        refine VL.pure rfl rfl rfl (p_moveP rfl) ?_
        refine VL.pure rfl rfl rfl (p_nilCheck rfl) ?_
        refine VL.pure rfl rfl rfl (p_field (fo := 4) Try.underlying65 rfl Try.sizeOf3 rfl rfl rfl) ?_
        refine VL.read rfl rfl rfl (fun w' hw' => r_load (v := .int _ _) Try.isAgg3 rfl (hw'.at_ 1 0 rfl) rfl) ?_
        refine VL.pure rfl rfl rfl (p_add64 rfl rfl (by omega)) ?_
        refine VL.pure rfl rfl rfl (p_eq rfl rfl) ?_
        refine VL.nil ?_
        repeat (first | refine VC.seq ?_ | refine VC.block ?_ | refine VC.skip ?_)
        refine VC.condD rfl (fun h7 => ?_) (fun h7 => ?_)
        · rw [if_neg (not_not_intro h7)]
          repeat (first | refine VC.seq ?_ | refine VC.block ?_ | refine VC.skip ?_)
          refine VC.region ?_
          refine VR.pure rfl rfl (p_moveP rfl) ?_
          refine VR.pure rfl rfl (p_nilCheck rfl) ?_
          refine VR.pure rfl rfl (p_field (fo := 4) Try.underlying65 rfl Try.sizeOf3 rfl rfl rfl) ?_
          refine VR.val rfl rfl (r_load (v := .int _ _) Try.isAgg3 rfl (hm.at_ 1 0 rfl) rfl) ?_
          refine VR.pure rfl rfl (p_add64 rfl rfl (by omega)) ?_
          refine VR.pure rfl rfl (p_nilCheck rfl) ?_
          refine VR.pure rfl rfl (p_field (fo := 4) Try.underlying65 rfl Try.sizeOf3 rfl rfl rfl) ?_
          refine VR.store (cs' := #[.int .i64 k2.inc, .int .i64 k2.peer, .slice A2 n2 c2, .int .i64 k2.acked, .int .i64 (k2.got + 1)]) (v := .int _ _) Try.sizeOf3 rfl rfl rfl rfl rfl hm 1 0 rfl (Nat.ble_eq.mp rfl) rfl ?_
          intro w hm
          refine VR.nil ?_
          repeat (first | refine VC.seq ?_ | refine VC.block ?_ | refine VC.skip ?_)
          refine VC.region ?_
          refine VR.new hm rfl rfl (n_buildSlice0 Try.underlying22 inf5) ?_
          intro g0 w hm
          refine VR.pure rfl rfl (p_field (fo := 4) Try.underlying24 rfl Try.sizeOf22 rfl rfl rfl) ?_
          refine VR.val rfl rfl (r_load (v := .slice _ _ _) Try.isAgg22 rfl (hm.at_ 1 0 rfl) rfl) ?_
          refine VR.append (s := 1) (bytes := 1) Try.underlying22 inf5 rfl rfl rfl rfl rfl rfl rfl rfl rfl hm (OwnS.made (c := 0) (by unfold maxLen; omega) rfl) (hr1.mono hm.fix) (bytes_one p.load) (Nat.zero_add m) ⟨by unfold maxLen; omega, by omega⟩ ?_
          intro A7 c7 w L7 ho7 hm
          refine VR.pure rfl rfl (p_moveB rfl) ?_
          refine VR.pure rfl rfl (p_assignL rfl) ?_
          refine VR.pure rfl rfl (p_assignB rfl) ?_
          refine VR.pure rfl rfl (p_assignB rfl) ?_
          refine VR.nil ?_
          repeat (first | refine VC.seq ?_ | refine VC.block ?_ | refine VC.skip ?_)
          refine VC.ret ⟨_, ResOf.r3 (v := .slice _ _ _) (u := .bool _) (x := .bool _) rfl rfl rfl rfl, ?_⟩
          dsimp only [Option.getD_some, Option.isSome_some]
          rw [hml]
          exact ⟨_, L2, A7, c7, L7, rfl, ⟨A2, n2, c2, ws2, rfl, ho2, hws2, hwo2⟩, ho7, hm.pop2⟩
        · rw [if_pos h7]
          repeat (first | refine VC.seq ?_ | refine VC.block ?_ | refine VC.skip ?_)
          refine VC.region ?_
          refine VR.pure rfl rfl (p_moveB rfl) ?_
          refine VR.pure rfl rfl (p_assignL rfl) ?_
          refine VR.pure rfl rfl (p_assignB rfl) ?_
          refine VR.pure rfl rfl (p_assignB rfl) ?_
          refine VR.nil ?_
          repeat (first | refine VC.seq ?_ | refine VC.block ?_ | refine VC.skip ?_)
          refine VC.ret ⟨_, ResOf.r3 (v := .slice _ _ _) (u := .bool _) (x := .bool _) rfl rfl rfl rfl, ?_⟩
          exact ⟨_, L2, none, 0, [], rfl, hk20, OwnS.nil _ _, hm.pop.nil_⟩

end Go.Bd
