/- Contracts of layer 8: one step of both disks; are they alike? Conditions: as each states. -/
import Derived.Test.Ytjohjlhjeommiaa08z
namespace Go.Bd
open Go.Proofs
set_option linter.unusedVariables false
set_option maxRecDepth 20000

section
variable {F : Env} {w : World} {Ls : List Blks} {g m gr : Nat} {D : Dk} {room : Int} {rs : List Rf} {A : Option Addr} {c : Nat} {L : Blks}
/-- Both disks, alike. -/
def Both (F : Env) (w : World) (g m gr : Nat) (room : Int) (k : Nat) (Ls : List Blks) : Prop :=
  ∃ D rs A c L, DkOk D ∧ Sm D.abs room rs ∧ D.fs.length ≤ k ∧ OwnR rs A c L ∧ (∀ x ∈ rs, RfOk F.heap x) ∧ Mem F w (two g m D gr room rs A c L Ls)
set_option maxHeartbeats 8000000 in
theorem step_c {x : Dd} {k : Nat} (h : Both F w g m gr room k Ls) (hk : k ≤ 900) (hx : DdOk F.heap x) (hroom : room ≤ 9223372036854775807) :
    Calls Try.prog 34 #[.pointer (some ⟨g, 0, none⟩), .pointer (some ⟨gr, 0, none⟩), .agg #[.int .i64 x.op, .string x.name, .string x.dest, .slice x.A x.n x.c, .int .i64 x.k]] w
      (Ret fun v w' => v = .bool true ∧ ∃ G, F.under G ∧ Both G w' g m gr room (k + 1) Ls) := by
  obtain ⟨D, rs, A, c, L, hD, hs, hlen, ho, hok, hm⟩ := h
  have hrl := hs.len
  refine Calls.of_vc Try.func34 rfl Try.ntmps34 rfl ?_
  repeat (first | refine VC.seq ?_ | refine VC.block ?_ | refine VC.skip ?_)
  refine VC.region ?_
  refine VR.new hm rfl rfl (n_boxG rfl) ?_
  intro bx w hm
  refine VR.pure rfl rfl (p_assignB rfl) ?_
  refine VR.nil ?_
  obtain ⟨G, hu, hm, hb⟩ := (show Mem F w ([(bx, .cells #[.int .i64 x.op, .string x.name, .string x.dest, .slice x.A x.n x.c, .int .i64 x.k] 55 (0, 0))] :: two g m D gr room rs A c L Ls) from hm).freeze
  replace hb := hb _ (.head _)
  replace hok : ∀ x ∈ rs, RfOk G.heap x := oks hok hu.heap
  replace hx := hx.mono hu.heap
  repeat (first | refine VC.seq ?_ | refine VC.block ?_ | refine VC.skip ?_)
  refine VC.region ?_
  refine VR.pure rfl rfl (p_field (fo := 0) Try.underlying55 rfl Try.sizeOf3 rfl rfl rfl) ?_
  refine VR.val rfl rfl (r_load (v := .int _ _) Try.isAgg3 rfl (hm.fix _ _ hb) rfl) ?_
  refine VR.call rfl rfl (r_call2 Try.call21 rfl rfl) (pick_c (n := 7) (by decide)) ?_
  rintro _ _ ⟨⟨q, hq, rfl⟩, rfl⟩
  refine VR.nil ?_
  repeat (first | refine VC.seq ?_ | refine VC.block ?_ | refine VC.skip ?_)
  repeat (first | refine VC.seq ?_ | refine VC.block ?_ | refine VC.skip ?_)
  refine VC.region ?_
  refine VR.pure rfl rfl (p_eq rfl rfl) ?_
  refine VR.pure rfl rfl (p_assignB rfl) ?_
  refine VR.nil ?_
  repeat (first | refine VC.seq ?_ | refine VC.block ?_ | refine VC.skip ?_)
  refine VC.meet (σ := Unit) (fun _ => [(0, .pointer (some ⟨g, 0, none⟩)), (1, .pointer (some ⟨gr, 0, none⟩)), (5, .pointer (some ⟨bx, 0, none⟩)), (9, .int .i64 q), (10, .bool (decide ((q : Int) = 0 ∨ (q : Int) = 1)))]) (fun _ w => Mem G w (two g m D gr room rs A c L Ls)) ?_ ?_
  · repeat (first | refine VC.seq ?_ | refine VC.block ?_ | refine VC.skip ?_)
    refine VC.condD rfl (fun h2 => ?_) (fun h2 => ?_)
    · repeat (first | refine VC.seq ?_ | refine VC.block ?_ | refine VC.skip ?_)
      exact ⟨(), ⟨rfl, rfl, rfl, rfl, congrArg Value.bool (by rw [decide_eq_true h2, decide_eq_true (.inl h2)]), trivial⟩, hm⟩
    · repeat (first | refine VC.seq ?_ | refine VC.block ?_ | refine VC.skip ?_)
      refine VC.region ?_
      refine VR.pure rfl rfl (p_eq rfl rfl) ?_
      refine VR.pure rfl rfl (p_assignB rfl) ?_
      refine VR.nil ?_
      exact ⟨(), ⟨rfl, rfl, rfl, rfl, congrArg Value.bool (decide_eq_decide.2 ⟨fun h => .inr h, fun h => by omega⟩), trivial⟩, hm⟩
  clear hm
  rintro _ A1 w hm
  repeat (first | refine VC.seq ?_ | refine VC.block ?_ | refine VC.skip ?_)
  refine VC.condD rfl (fun h3 => ?_) (fun h3 => ?_)
  · obtain ⟨c1, d1, hq1⟩ : ∃ c1 d1, appD D.abs x.name x.b = (c1, d1) := ⟨_, _, rfl⟩
    have hlike := hs.app (s := x.name) x.b
    have hr2 := app_room (⟨room, absR rs⟩ : Da) x.name x.b
    have hr1 := app_room D.abs x.name x.b
    rw [hq1] at hlike hr1
    repeat (first | refine VC.seq ?_ | refine VC.block ?_ | refine VC.skip ?_)
    refine VC.loud (Kept G []) [5, 11] rfl (by kernel_rfl) (Kept.of0 hm.drew) ?_
    replace hm := hm.drew
    refine VL.pure rfl rfl rfl (p_moveP rfl) ?_
    refine VL.pure rfl rfl rfl (p_field (fo := 1) Try.underlying55 rfl Try.sizeOf9 rfl rfl rfl) ?_
    refine VL.read rfl rfl rfl (fun w' hw' => r_load (v := .string _) Try.isAgg9 rfl (hw'.fix _ _ hb) rfl) ?_
    refine VL.pure rfl rfl rfl (p_field (fo := 3) Try.underlying55 rfl Try.sizeOf22 rfl rfl rfl) ?_
    refine VL.read rfl rfl rfl (fun w' hw' => r_load (v := .slice _ _ _) Try.isAgg22 rfl (hw'.fix _ _ hb) rfl) ?_
    refine VL.call rfl rfl rfl (r_call3 Try.call12 rfl rfl rfl) (appK hm hD rfl hx.name hx.small hx.row hq1) ?_
    rintro _ w ⟨D', rfl, he, hD', hm⟩
    refine ⟨Kept.of0 hm, ?_⟩
    refine VL.pure rfl rfl rfl (p_moveP rfl) ?_
    refine VL.pure rfl rfl rfl (p_field (fo := 1) Try.underlying55 rfl Try.sizeOf9 rfl rfl rfl) ?_
    refine VL.read rfl rfl rfl (fun w' hw' => r_load (v := .string _) Try.isAgg9 rfl (hw'.fix _ _ hb) rfl) ?_
    refine VL.pure rfl rfl rfl (p_field (fo := 3) Try.underlying55 rfl Try.sizeOf22 rfl rfl rfl) ?_
    refine VL.read rfl rfl rfl (fun w' hw' => r_load (v := .slice _ _ _) Try.isAgg22 rfl (hw'.fix _ _ hb) rfl) ?_
    refine VL.call rfl rfl rfl (r_call3 Try.call56 rfl rfl rfl) (rapp2 ho hok hm (by omega) hs.asc hx.name hx.small hx.row hroom) ?_
    rintro _ w ⟨G2, rs', A', c', L', rfl, hp, ha, hu2, ho', hok', hm⟩
    refine ⟨Kept.of0 (hm.shrink hu2), ?_⟩
    refine VL.pure rfl rfl rfl (p_eq rfl rfl) ?_
    refine VL.pure rfl rfl rfl (p_assignB rfl) ?_
    refine VL.nil ?_
    repeat (first | refine VC.seq ?_ | refine VC.block ?_ | refine VC.skip ?_)
    refine VC.ret ⟨_, ResOf.r1 (v := .bool _) rfl rfl, ?_⟩
    refine ⟨congrArg Value.bool (decide_eq_true hlike.1), G2, hu.trans hu2, D', rs', A', c', L', hD', ?_, Nat.le_trans (step_len he hr1.2) (Nat.succ_le_succ hlen), ho', hok', hm⟩
    rw [he]
    exact Sm.on (r := (c1, d1)) hlike hr2.1 hp ha
  · repeat (first | refine VC.seq ?_ | refine VC.block ?_ | refine VC.skip ?_)
    refine VC.region ?_
    refine VR.pure rfl rfl (p_eq rfl rfl) ?_
    refine VR.pure rfl rfl (p_assignB rfl) ?_
    refine VR.nil ?_
    repeat (first | refine VC.seq ?_ | refine VC.block ?_ | refine VC.skip ?_)
    refine VC.condD rfl (fun h5 => ?_) (fun h5 => ?_)
    · obtain ⟨c1, d1, hq1⟩ : ∃ c1 d1, syncD D.abs x.name = (c1, d1) := ⟨_, _, rfl⟩
      have hlike := hs.sync (s := x.name)
      have hr2 := sync_room (⟨room, absR rs⟩ : Da) x.name
      have hr1 := sync_room D.abs x.name
      rw [hq1] at hlike hr1
      repeat (first | refine VC.seq ?_ | refine VC.block ?_ | refine VC.skip ?_)
      refine VC.loud (Kept G []) [3, 7] rfl (by kernel_rfl) (Kept.of0 hm.drew) ?_
      replace hm := hm.drew
      refine VL.pure rfl rfl rfl (p_moveP rfl) ?_
      refine VL.pure rfl rfl rfl (p_field (fo := 1) Try.underlying55 rfl Try.sizeOf9 rfl rfl rfl) ?_
      refine VL.read rfl rfl rfl (fun w' hw' => r_load (v := .string _) Try.isAgg9 rfl (hw'.fix _ _ hb) rfl) ?_
      refine VL.call rfl rfl rfl (r_call2 Try.call13 rfl rfl) (syncK hm hD rfl hq1) ?_
      rintro _ w ⟨D', rfl, he, hD', hm⟩
      refine ⟨Kept.of0 hm, ?_⟩
      refine VL.pure rfl rfl rfl (p_moveP rfl) ?_
      refine VL.pure rfl rfl rfl (p_field (fo := 1) Try.underlying55 rfl Try.sizeOf9 rfl rfl rfl) ?_
      refine VL.read rfl rfl rfl (fun w' hw' => r_load (v := .string _) Try.isAgg9 rfl (hw'.fix _ _ hb) rfl) ?_
      refine VL.call rfl rfl rfl (r_call2 Try.call57 rfl rfl) (rsync2 ho hok hm (by omega) hs.asc) ?_
      rintro _ w ⟨G2, rs', A', c', L', rfl, hp, ha, hu2, ho', hok', hm⟩
      refine ⟨Kept.of0 (hm.shrink hu2), ?_⟩
      refine VL.pure rfl rfl rfl (p_eq rfl rfl) ?_
      refine VL.pure rfl rfl rfl (p_assignB rfl) ?_
      refine VL.nil ?_
      repeat (first | refine VC.seq ?_ | refine VC.block ?_ | refine VC.skip ?_)
      refine VC.ret ⟨_, ResOf.r1 (v := .bool _) rfl rfl, ?_⟩
      refine ⟨congrArg Value.bool (decide_eq_true hlike.1), G2, hu.trans hu2, D', rs', A', c', L', hD', ?_, Nat.le_trans (step_len he hr1.2) (Nat.succ_le_succ hlen), ho', hok', hm⟩
      rw [he]
      exact Sm.on (r := (c1, d1)) hlike hr2.1 hp ha
    · repeat (first | refine VC.seq ?_ | refine VC.block ?_ | refine VC.skip ?_)
      refine VC.region ?_
      refine VR.pure rfl rfl (p_eq rfl rfl) ?_
      refine VR.pure rfl rfl (p_assignB rfl) ?_
      refine VR.nil ?_
      repeat (first | refine VC.seq ?_ | refine VC.block ?_ | refine VC.skip ?_)
      refine VC.condD rfl (fun h7 => ?_) (fun h7 => ?_)
      · obtain ⟨c1, d1, hq1⟩ : ∃ c1 d1, cutD D.abs x.name x.k = (c1, d1) := ⟨_, _, rfl⟩
        have hlike := hs.cut (s := x.name) x.k
        have hr2 := cut_room (⟨room, absR rs⟩ : Da) x.name x.k
        have hr1 := cut_room D.abs x.name x.k
        rw [hq1] at hlike hr1
        repeat (first | refine VC.seq ?_ | refine VC.block ?_ | refine VC.skip ?_)
        refine VC.loud (Kept G []) [5, 11] rfl (by kernel_rfl) (Kept.of0 hm.drew) ?_
        replace hm := hm.drew
        refine VL.pure rfl rfl rfl (p_moveP rfl) ?_
        refine VL.pure rfl rfl rfl (p_field (fo := 1) Try.underlying55 rfl Try.sizeOf9 rfl rfl rfl) ?_
        refine VL.read rfl rfl rfl (fun w' hw' => r_load (v := .string _) Try.isAgg9 rfl (hw'.fix _ _ hb) rfl) ?_
        refine VL.pure rfl rfl rfl (p_field (fo := 4) Try.underlying55 rfl Try.sizeOf3 rfl rfl rfl) ?_
        refine VL.read rfl rfl rfl (fun w' hw' => r_load (v := .int _ _) Try.isAgg3 rfl (hw'.fix _ _ hb) rfl) ?_
        refine VL.call rfl rfl rfl (r_call3 Try.call22 rfl rfl rfl) (cutK hm hD rfl hq1) ?_
        rintro _ w ⟨D', rfl, he, hD', hm⟩
        refine ⟨Kept.of0 hm, ?_⟩
        refine VL.pure rfl rfl rfl (p_moveP rfl) ?_
        refine VL.pure rfl rfl rfl (p_field (fo := 1) Try.underlying55 rfl Try.sizeOf9 rfl rfl rfl) ?_
        refine VL.read rfl rfl rfl (fun w' hw' => r_load (v := .string _) Try.isAgg9 rfl (hw'.fix _ _ hb) rfl) ?_
        refine VL.pure rfl rfl rfl (p_field (fo := 4) Try.underlying55 rfl Try.sizeOf3 rfl rfl rfl) ?_
        refine VL.read rfl rfl rfl (fun w' hw' => r_load (v := .int _ _) Try.isAgg3 rfl (hw'.fix _ _ hb) rfl) ?_
        refine VL.call rfl rfl rfl (r_call3 Try.call58 rfl rfl rfl) (rcut2 ho hok hm (by omega) hs.asc) ?_
        rintro _ w ⟨G2, rs', A', c', L', rfl, hp, ha, hu2, ho', hok', hm⟩
        refine ⟨Kept.of0 (hm.shrink hu2), ?_⟩
        refine VL.pure rfl rfl rfl (p_eq rfl rfl) ?_
        refine VL.pure rfl rfl rfl (p_assignB rfl) ?_
        refine VL.nil ?_
        repeat (first | refine VC.seq ?_ | refine VC.block ?_ | refine VC.skip ?_)
        refine VC.ret ⟨_, ResOf.r1 (v := .bool _) rfl rfl, ?_⟩
        refine ⟨congrArg Value.bool (decide_eq_true hlike.1), G2, hu.trans hu2, D', rs', A', c', L', hD', ?_, Nat.le_trans (step_len he hr1.2) (Nat.succ_le_succ hlen), ho', hok', hm⟩
        rw [he]
        exact Sm.on (r := (c1, d1)) hlike hr2.1 hp ha
      · repeat (first | refine VC.seq ?_ | refine VC.block ?_ | refine VC.skip ?_)
        refine VC.region ?_
        refine VR.pure rfl rfl (p_eq rfl rfl) ?_
        refine VR.pure rfl rfl (p_assignB rfl) ?_
        refine VR.nil ?_
        repeat (first | refine VC.seq ?_ | refine VC.block ?_ | refine VC.skip ?_)
        refine VC.condD rfl (fun h9 => ?_) (fun h9 => ?_)
        · obtain ⟨c1, d1, hq1⟩ : ∃ c1 d1, renD D.abs x.name x.dest = (c1, d1) := ⟨_, _, rfl⟩
          have hlike := hs.ren (s := x.name) (t := x.dest)
          have hr2 := ren_room (⟨room, absR rs⟩ : Da) x.name x.dest
          have hr1 := ren_room D.abs x.name x.dest
          rw [hq1] at hlike hr1
          repeat (first | refine VC.seq ?_ | refine VC.block ?_ | refine VC.skip ?_)
          refine VC.loud (Kept G []) [5, 11] rfl (by kernel_rfl) (Kept.of0 hm.drew) ?_
          replace hm := hm.drew
          refine VL.pure rfl rfl rfl (p_moveP rfl) ?_
          refine VL.pure rfl rfl rfl (p_field (fo := 1) Try.underlying55 rfl Try.sizeOf9 rfl rfl rfl) ?_
          refine VL.read rfl rfl rfl (fun w' hw' => r_load (v := .string _) Try.isAgg9 rfl (hw'.fix _ _ hb) rfl) ?_
          refine VL.pure rfl rfl rfl (p_field (fo := 2) Try.underlying55 rfl Try.sizeOf9 rfl rfl rfl) ?_
          refine VL.read rfl rfl rfl (fun w' hw' => r_load (v := .string _) Try.isAgg9 rfl (hw'.fix _ _ hb) rfl) ?_
          refine VL.call rfl rfl rfl (r_call3 Try.call18 rfl rfl rfl) (renK hm hD rfl hx.name hx.dest hq1) ?_
          rintro _ w ⟨D', rfl, he, hD', hm⟩
          refine ⟨Kept.of0 hm, ?_⟩
          refine VL.pure rfl rfl rfl (p_moveP rfl) ?_
          refine VL.pure rfl rfl rfl (p_field (fo := 1) Try.underlying55 rfl Try.sizeOf9 rfl rfl rfl) ?_
          refine VL.read rfl rfl rfl (fun w' hw' => r_load (v := .string _) Try.isAgg9 rfl (hw'.fix _ _ hb) rfl) ?_
          refine VL.pure rfl rfl rfl (p_field (fo := 2) Try.underlying55 rfl Try.sizeOf9 rfl rfl rfl) ?_
          refine VL.read rfl rfl rfl (fun w' hw' => r_load (v := .string _) Try.isAgg9 rfl (hw'.fix _ _ hb) rfl) ?_
          refine VL.call rfl rfl rfl (r_call3 Try.call59 rfl rfl rfl) (rren2 ho hok hm (by omega) hs.asc hx.name hx.dest) ?_
          rintro _ w ⟨G2, rs', A', c', L', rfl, hp, ha, hu2, ho', hok', hm⟩
          refine ⟨Kept.of0 (hm.shrink hu2), ?_⟩
          refine VL.pure rfl rfl rfl (p_eq rfl rfl) ?_
          refine VL.pure rfl rfl rfl (p_assignB rfl) ?_
          refine VL.nil ?_
          repeat (first | refine VC.seq ?_ | refine VC.block ?_ | refine VC.skip ?_)
          refine VC.ret ⟨_, ResOf.r1 (v := .bool _) rfl rfl, ?_⟩
          refine ⟨congrArg Value.bool (decide_eq_true hlike.1), G2, hu.trans hu2, D', rs', A', c', L', hD', ?_, Nat.le_trans (step_len he hr1.2) (Nat.succ_le_succ hlen), ho', hok', hm⟩
          rw [he]
          exact Sm.on (r := (c1, d1)) hlike hr2.1 hp ha
        · repeat (first | refine VC.seq ?_ | refine VC.block ?_ | refine VC.skip ?_)
          refine VC.region ?_
          refine VR.pure rfl rfl (p_eq rfl rfl) ?_
          refine VR.pure rfl rfl (p_assignB rfl) ?_
          refine VR.nil ?_
          repeat (first | refine VC.seq ?_ | refine VC.block ?_ | refine VC.skip ?_)
          refine VC.condD rfl (fun h11 => ?_) (fun h11 => ?_)
          · obtain ⟨c1, d1, hq1⟩ : ∃ c1 d1, remD D.abs x.name = (c1, d1) := ⟨_, _, rfl⟩
            have hlike := hs.rem (s := x.name)
            have hr2 := rem_room (⟨room, absR rs⟩ : Da) x.name
            have hr1 := rem_room D.abs x.name
            rw [hq1] at hlike hr1
            repeat (first | refine VC.seq ?_ | refine VC.block ?_ | refine VC.skip ?_)
            refine VC.loud (Kept G []) [3, 7] rfl (by kernel_rfl) (Kept.of0 hm.drew) ?_
            replace hm := hm.drew
            refine VL.pure rfl rfl rfl (p_moveP rfl) ?_
            refine VL.pure rfl rfl rfl (p_field (fo := 1) Try.underlying55 rfl Try.sizeOf9 rfl rfl rfl) ?_
            refine VL.read rfl rfl rfl (fun w' hw' => r_load (v := .string _) Try.isAgg9 rfl (hw'.fix _ _ hb) rfl) ?_
            refine VL.call rfl rfl rfl (r_call2 Try.call23 rfl rfl) (remK hm hD rfl hq1) ?_
            rintro _ w ⟨D', rfl, he, hD', hm⟩
            refine ⟨Kept.of0 hm, ?_⟩
            refine VL.pure rfl rfl rfl (p_moveP rfl) ?_
            refine VL.pure rfl rfl rfl (p_field (fo := 1) Try.underlying55 rfl Try.sizeOf9 rfl rfl rfl) ?_
            refine VL.read rfl rfl rfl (fun w' hw' => r_load (v := .string _) Try.isAgg9 rfl (hw'.fix _ _ hb) rfl) ?_
            refine VL.call rfl rfl rfl (r_call2 Try.call60 rfl rfl) (rrem2 ho hok hm (by omega) hs.asc) ?_
            rintro _ w ⟨G2, rs', A', c', L', rfl, hp, ha, hu2, ho', hok', hm⟩
            refine ⟨Kept.of0 (hm.shrink hu2), ?_⟩
            refine VL.pure rfl rfl rfl (p_eq rfl rfl) ?_
            refine VL.pure rfl rfl rfl (p_assignB rfl) ?_
            refine VL.nil ?_
            repeat (first | refine VC.seq ?_ | refine VC.block ?_ | refine VC.skip ?_)
            refine VC.ret ⟨_, ResOf.r1 (v := .bool _) rfl rfl, ?_⟩
            refine ⟨congrArg Value.bool (decide_eq_true hlike.1), G2, hu.trans hu2, D', rs', A', c', L', hD', ?_, Nat.le_trans (step_len he hr1.2) (Nat.succ_le_succ hlen), ho', hok', hm⟩
            rw [he]
            exact Sm.on (r := (c1, d1)) hlike hr2.1 hp ha
          · repeat (first | refine VC.seq ?_ | refine VC.block ?_ | refine VC.skip ?_)
            repeat (first | refine VC.seq ?_ | refine VC.block ?_ | refine VC.skip ?_)
            refine VC.region ?_
            refine VR.pure rfl rfl (p_moveP rfl) ?_
            refine VR.pure rfl rfl (p_field (fo := 4) Try.underlying55 rfl Try.sizeOf3 rfl rfl rfl) ?_
            refine VR.val rfl rfl (r_load (v := .int _ _) Try.isAgg3 rfl (hm.fix _ _ hb) rfl) ?_
            refine VR.call rfl rfl (r_call2 Try.call15 rfl rfl) (crashK hm hD rfl rfl) ?_
            rintro v3 w ⟨D', he, hD', hm⟩
            refine VR.nil ?_
            repeat (first | refine VC.seq ?_ | refine VC.block ?_ | refine VC.skip ?_)
            refine VC.region ?_
            refine VR.pure rfl rfl (p_moveP rfl) ?_
            refine VR.pure rfl rfl (p_field (fo := 4) Try.underlying55 rfl Try.sizeOf3 rfl rfl rfl) ?_
            refine VR.val rfl rfl (r_load (v := .int _ _) Try.isAgg3 rfl (hm.fix _ _ hb) rfl) ?_
            refine VR.call rfl rfl (r_call2 Try.call38 rfl rfl) (rcrash2 ho hok hm (by omega) hs.asc) ?_
            rintro v3 w ⟨G2, rs', A', c', L', hp, ha, hu2, ho', hok', hm⟩
            refine VR.nil ?_
            repeat (first | refine VC.seq ?_ | refine VC.block ?_ | refine VC.skip ?_)
            refine VC.region ?_
            refine VR.pure rfl rfl (p_assignB rfl) ?_
            refine VR.nil ?_
            repeat (first | refine VC.seq ?_ | refine VC.block ?_ | refine VC.skip ?_)
            refine VC.ret ⟨_, ResOf.r1 (v := .bool _) rfl rfl, ?_⟩
            refine ⟨rfl, G2, hu.trans hu2, D', rs', A', c', L', hD', ⟨?_, ?_, ha⟩, ?_, ho', hok', hm⟩
            · rw [he]
              exact hs.room
            · rw [he, hp]
              exact hs.perm.map _
            · have h1 := fs_len he
              have h2 : (crashD D.abs x.k).fs.length = D.fs.length := by
                show ((D.fs.map Fl.abs).map _).length = _
                rw [List.length_map, List.length_map]
              omega
set_option maxHeartbeats 8000000 in
theorem like_c {k : Nat} (h : Both F w g m gr room k Ls) (hk : k ≤ 900) :
    Calls Try.prog 35 #[.pointer (some ⟨g, 0, none⟩), .pointer (some ⟨gr, 0, none⟩)] w (Ret fun v w' => v = .bool true ∧ ∃ G, F.under G ∧ Both G w' g m gr room k Ls) := by
  obtain ⟨D, rs, A, c, L, hD, hs, hlen, ho, hok, hm⟩ := h
  have hrl := hs.len
  have hal : D.abs.fs.length ≤ 1000000 := by
    have h1 : D.abs.fs.length = D.fs.length := List.length_map _
    omega
  refine Calls.of_vc Try.func35 rfl Try.ntmps35 rfl ?_
  repeat (first | refine VC.seq ?_ | refine VC.block ?_ | refine VC.skip ?_)
  refine VC.region ?_
  refine VR.pure rfl rfl (p_assignB rfl) ?_
  refine VR.nil ?_
  repeat (first | refine VC.seq ?_ | refine VC.block ?_ | refine VC.skip ?_)
  refine VC.region ?_
  refine VR.pure rfl rfl (p_moveP rfl) ?_
  refine VR.call rfl rfl (r_call1 Try.call61 rfl) (rlist2 ho hm (by omega)) ?_
  rintro _ w ⟨A1, c1, G1, rfl, hu1, hr1, hm⟩
  refine VR.pure rfl rfl (p_assignL rfl) ?_
  refine VR.nil ?_
  replace hok : ∀ x ∈ rs, RfOk G1.heap x := oks hok hu1.heap
  have hnl : (rs.map (·.name)).length = rs.length := List.length_map _
  repeat (first | refine VC.seq ?_ | refine VC.block ?_ | refine VC.skip ?_)
  refine VC.region ?_
  refine VR.pure rfl rfl (p_moveP rfl) ?_
  refine VR.call rfl rfl (r_call1 Try.call20 rfl) (listK hm hD rfl hal hs.list) ?_
  rintro _ w ⟨A2, c2, G2, rfl, _, _, hu2, hr2, hm⟩
  refine VR.pure rfl rfl (p_moveL rfl) ?_
  replace hok : ∀ x ∈ rs, RfOk G2.heap x := oks hok hu2.heap
  refine VR.call rfl rfl (r_call2 Try.call19 rfl rfl) (same_texts_c hm (by unfold maxLen; omega) hr2 (hr1.mono hu2.heap)) ?_
  rintro _ w ⟨rfl, hm⟩
  refine VR.pure rfl rfl (p_not rfl) ?_
  refine VR.pure rfl rfl (p_moveB rfl) ?_
  refine VR.knownF 18 rfl (by rw [decide_eq_true rfl]; rfl) ?_
  refine VR.pureG rfl rfl (p_moveP rfl) ?_
  refine VR.callG rfl rfl (r_call1 Try.call24 rfl) (usedK hm hD rfl rfl) ?_
  rintro _ w ⟨rfl, hm⟩
  refine VR.pureG rfl rfl (p_moveP rfl) ?_
  refine VR.callG rfl rfl (r_call1 Try.call62 rfl) (rused2 ho hok hm (by omega)) ?_
  rintro _ w ⟨rfl, hm⟩
  refine VR.pureG rfl rfl (p_ne rfl rfl) ?_
  refine VR.pure rfl rfl (p_pickF rfl rfl) ?_
  refine VR.nil ?_
  repeat (first | refine VC.seq ?_ | refine VC.block ?_ | refine VC.skip ?_)
  refine VC.condF rfl (decide_eq_false (not_not_intro hs.used)) ?_
  repeat (first | refine VC.seq ?_ | refine VC.block ?_ | refine VC.skip ?_)
  refine VC.region ?_
  refine VR.pure rfl rfl (p_assignI rfl) ?_
  refine VR.nil ?_
  repeat (first | refine VC.seq ?_ | refine VC.block ?_ | refine VC.skip ?_)
  refine VC.loop (σ := Nat × Env) (fun s => [(0, .pointer (some ⟨g, 0, none⟩)), (1, .pointer (some ⟨gr, 0, none⟩)), (5, .slice A1 rs.length c1), (6, .int .i64 s.1)])
    (fun s w => s.1 ≤ rs.length ∧ G2.under s.2 ∧ Mem s.2 w (two g m D gr room rs A c L Ls)) (fun s => rs.length - s.1) (0, G2) ⟨rfl, rfl, rfl, rfl, trivial⟩ ⟨by omega, Env.under_refl _, hm⟩ ?_
  clear hm
  rintro ⟨i, G⟩ A3 w ⟨hi, hu, hm⟩
  dsimp only at hi hu hm ⊢
  repeat (first | refine VC.seq ?_ | refine VC.block ?_ | refine VC.skip ?_)
  refine VC.region ?_
  refine VR.pure rfl rfl (p_moveI rfl) ?_
  refine VR.pure rfl rfl (p_moveL rfl) ?_
  refine VR.pure rfl rfl (p_len Try.underlying36 rfl) ?_
  refine VR.pure rfl rfl (p_lt rfl rfl) ?_
  refine VR.nil ?_
  repeat (first | refine VC.seq ?_ | refine VC.block ?_ | refine VC.skip ?_)
  refine VC.condD rfl (fun h5 => ?_) (fun h5 => ?_)
  · have hi' : i < rs.length := by omega
    obtain ⟨f, hf, hfm⟩ := get_of (xs := rs) (k := i) hi'
    have hr3 := (hr1.mono hu2.heap).mono hu.heap
    obtain ⟨b, off, blk, T, fr, rfl, hb, hc⟩ := Row.get hr3 (by omega)
    have hcx := (hc i hi').trans (text_at (l := rs.map (·.name)) (x := f.name) (by rw [List.getElem?_map, hf]; rfl))
    obtain ⟨e1, l1, hq1⟩ : ∃ e1 l1, readA D.abs f.name = (e1, l1) := ⟨_, _, rfl⟩
    have hq2 := hs.read (s := f.name)
    rw [hq1] at hq2
    repeat (first | refine VC.seq ?_ | refine VC.block ?_ | refine VC.skip ?_)
    refine VC.region ?_
    refine VR.pure rfl rfl (p_moveP rfl) ?_
    refine VR.pure rfl rfl (p_moveL rfl) ?_
    refine VR.pure rfl rfl (p_moveI rfl) ?_
    refine VR.pure rfl rfl (p_idx1 Try.underlying36 Try.sizeOf9 rfl rfl hi') ?_
    refine VR.val rfl rfl (r_load (v := .string _) Try.isAgg9 rfl (hm.fix _ _ hb) hcx) ?_
    refine VR.call rfl rfl (r_call2 Try.call16 rfl rfl) (readK hm hD rfl hq1) ?_
    rintro _ w ⟨A5, k5, q5, G5, rfl, hk5, hk5b, hu5, hr5, hm⟩
    refine VR.pure rfl rfl (p_moveT rfl) ?_
    refine VR.pure rfl rfl (p_extract rfl rfl) ?_
    refine VR.pure rfl rfl (p_extract rfl rfl) ?_
    refine VR.pure rfl rfl (p_assignL rfl) ?_
    refine VR.pure rfl rfl (p_assignI rfl) ?_
    refine VR.nil ?_
    repeat (first | refine VC.seq ?_ | refine VC.block ?_ | refine VC.skip ?_)
    refine VC.region ?_
    refine VR.pure rfl rfl (p_moveP rfl) ?_
    refine VR.pure rfl rfl (p_moveL rfl) ?_
    refine VR.pure rfl rfl (p_moveI rfl) ?_
    refine VR.pure rfl rfl (p_idx1 Try.underlying36 Try.sizeOf9 rfl rfl hi') ?_
    refine VR.val rfl rfl (r_load (v := .string _) Try.isAgg9 rfl (hm.fix _ _ (hu5.heap _ _ hb)) hcx) ?_
    refine VR.call rfl rfl (r_call2 Try.call36 rfl rfl) (rread2 ho (oks (oks hok hu.heap) hu5.heap) hm (by omega) hs.asc) ?_
    rintro _ w ⟨A6, k6, q6, G6, rfl, hu6, hr6, hm⟩
    refine VR.pure rfl rfl (p_moveT rfl) ?_
    refine VR.pure rfl rfl (p_extract rfl rfl) ?_
    refine VR.pure rfl rfl (p_extract rfl rfl) ?_
    refine VR.pure rfl rfl (p_assignL rfl) ?_
    refine VR.pure rfl rfl (p_assignI rfl) ?_
    refine VR.nil ?_
    repeat (first | refine VC.seq ?_ | refine VC.block ?_ | refine VC.skip ?_)
    refine VC.region ?_
    refine VR.pure rfl rfl (p_moveI rfl) ?_
    refine VR.pure rfl rfl (p_moveI rfl) ?_
    refine VR.pure rfl rfl (p_ne rfl rfl) ?_
    refine VR.pure rfl rfl (p_moveB rfl) ?_
    refine VR.knownF 52 rfl (decide_eq_false (not_not_intro (by rw [← hq2]))) ?_
    refine VR.pureG rfl rfl (p_moveL rfl) ?_
    refine VR.pureG rfl rfl (p_moveL rfl) ?_
    refine VR.callG rfl rfl (r_call2 Try.call17 rfl rfl) (same_bytes_c hm (by unfold maxLen; omega) (hr5.mono hu6.heap) hr6) ?_
    rintro _ w ⟨rfl, hm⟩
    refine VR.pureG rfl rfl (p_not rfl) ?_
    refine VR.pure rfl rfl (p_pickF rfl rfl) ?_
    refine VR.nil ?_
    repeat (first | refine VC.seq ?_ | refine VC.block ?_ | refine VC.skip ?_)
    refine VC.condF rfl (by rw [decide_eq_true (by rw [← hq2])]; rfl) ?_
    repeat (first | refine VC.seq ?_ | refine VC.block ?_ | refine VC.skip ?_)
    repeat (first | refine VC.seq ?_ | refine VC.block ?_ | refine VC.skip ?_)
    refine VC.region ?_
    refine VR.pure rfl rfl (p_moveI rfl) ?_
    refine VR.pure rfl rfl (p_add64 rfl rfl (by omega)) ?_
    refine VR.pure rfl rfl (p_assignI rfl) ?_
    refine VR.nil ?_
    exact ⟨(i + 1, G6), ⟨rfl, rfl, rfl, rfl, trivial⟩, ⟨by omega, (hu.trans hu5).trans hu6, hm⟩, by omega⟩
  · repeat (first | refine VC.seq ?_ | refine VC.block ?_ | refine VC.skip ?_)
    refine VC.exit ?_
    repeat (first | refine VC.seq ?_ | refine VC.block ?_ | refine VC.skip ?_)
    refine VC.region ?_
    refine VR.pure rfl rfl (p_assignB rfl) ?_
    refine VR.nil ?_
    repeat (first | refine VC.seq ?_ | refine VC.block ?_ | refine VC.skip ?_)
    refine VC.ret ⟨_, ResOf.r1 (v := .bool _) rfl rfl, ?_⟩
    exact ⟨rfl, G, (hu1.trans hu2).trans hu, D, rs, A, c, L, hD, hs, hlen, ho, oks hok hu.heap, hm⟩
end
end Go.Bd
