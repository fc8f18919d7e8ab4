/- LinkFull: as many loads wait as may, no more; links that aren't there answer nothing. Conditions: none. -/
import Derived.Test.Ytfaihpikeagpcaa10d
import Derived.Test.Ytfaihpikeagpcaa10o
import Derived.Laws.OwnMore
namespace Go.Bd
open Go.Proofs
set_option linter.unusedVariables false
set_option linter.unusedSimpArgs false
set_option maxRecDepth 20000

theorem made_row {H : Nat → Option Obj} {b : Nat} {T : TypeId} {fr : Nat × Nat} {n : Nat} (h : H b = some (.cells (madeCells (Value.int .u8 0).cells (n * 1)) T fr)) : BRow H (some ⟨b, 0, none⟩) n (List.replicate n 0) := by
  refine ⟨by simp, .inr ⟨b, 0, _, T, fr, rfl, h, fun i hi => ?_⟩⟩
  have e : (madeCells (Value.int .u8 0).cells (n * 1)).toList = List.replicate n (.int .u8 0) := by rw [Nat.mul_one]; exact toList_madeCells_one _ n
  rw [Nat.zero_add, ← Array.getElem?_toList, e]
  simp [hi]

def kfull (i : Nat) : Lk := ⟨3, 0, 0, 0, List.replicate (min i 1000) [1]⟩
theorem kfull_less {k : Nat} (h : k < 1000) : (kfull k).send [1] = (0, kfull (k + 1)) := by
  unfold Lk.send kfull Lk.there
  have e1 : min k 1000 = k := by omega
  have e2 : min (k + 1) 1000 = k + 1 := by omega
  rw [e1, e2, List.replicate_succ']
  simp
  omega
theorem kfull_more {k : Nat} (h : 1000 ≤ k) : (kfull k).send [1] = (5, kfull (k + 1)) := by
  unfold Lk.send kfull Lk.there
  have e1 : min k 1000 = 1000 := by omega
  have e2 : min (k + 1) 1000 = 1000 := by omega
  rw [e1, e2]
  simp
theorem kfull_nil (k : Nat) : (kfull k).send [] = (2, kfull k) := by simp [Lk.send, Lk.there, kfull]
theorem kfull_long (k : Nat) : (kfull k).send (List.replicate (Int.toNat 1048477) 0) = (3, kfull k) := by
  have e : (List.replicate (Int.toNat 1048477) (0 : Int)).length = 1048477 := by rw [List.length_replicate]; rfl
  unfold Lk.send
  rw [e, if_neg (by simp [Lk.there, kfull]), if_neg (by omega), if_pos (by omega)]
def p00 : Pk := ⟨0, 0, 0, 0, []⟩

set_option maxHeartbeats 4000000 in
theorem link_full_c {F : Env} {w : World} {more : Int} {p : Pk} {B : Option Addr} {m d : Nat} (hm : Mem F w []) (hr : BRow F.heap B m p.load) (hm48 : m ≤ 140737488355328) :
    Calls Try.prog 3 #[.int .i64 more, .agg #[.int .i64 p.from_, .int .i64 p.to, .int .i64 p.seq, .int .i64 p.ack, .slice B m d]] w (Ret fun v w' => v = .bool true ∧ Mem F w' []) := by
  refine Calls.of_vc Try.func3 rfl Try.ntmps3 rfl ?_
  repeat (first | refine VC.seq ?_ | refine VC.block ?_ | refine VC.skip ?_)
  refine VC.region ?_
  refine VR.new hm rfl rfl (n_boxG rfl) ?_
  intro b3 w hm
  refine VR.pure rfl rfl (p_assignB rfl) ?_
  refine VR.nil ?_
  repeat (first | refine VC.seq ?_ | refine VC.block ?_ | refine VC.skip ?_)
  refine VC.region ?_
  refine VR.call rfl rfl (r_call0 Try.call8) (awake_c hm) ?_
  rintro _ w ⟨rfl, hm⟩
  refine VR.pure rfl rfl (p_not rfl) ?_
  refine VR.nil ?_
  repeat (first | refine VC.seq ?_ | refine VC.block ?_ | refine VC.skip ?_)
  refine VC.condF rfl rfl ?_
  repeat (first | refine VC.seq ?_ | refine VC.block ?_ | refine VC.skip ?_)
  refine VC.region ?_
  refine VR.pure rfl rfl (p_assignP rfl) ?_
  refine VR.nil ?_
  repeat (first | refine VC.seq ?_ | refine VC.block ?_ | refine VC.skip ?_)
  refine VC.region ?_
  refine VR.pure rfl rfl (p_moveP rfl) ?_
  refine VR.val rfl rfl (r_loadAgg (vs := [.int _ _, .int _ _, .int _ _, .int _ _, .slice _ _ _]) Try.isAgg24 Try.sizeOf24 rfl (hm.at_ 0 0 rfl) rfl (agg_at rfl)) ?_
  refine VR.call rfl rfl (r_call2 Try.call9 rfl rfl) (take_none hm (p := p)) ?_
  rintro _ w ⟨rfl, hm⟩
  refine VR.pure rfl rfl (p_moveT rfl) ?_
  refine VR.pure rfl rfl (p_extract rfl rfl) ?_
  refine VR.pure rfl rfl (p_extract rfl rfl) ?_
  refine VR.pure rfl rfl (p_extract rfl rfl) ?_
  refine VR.pure rfl rfl (p_assignL rfl) ?_
  refine VR.pure rfl rfl (p_assignB rfl) ?_
  refine VR.pure rfl rfl (p_assignB rfl) ?_
  refine VR.nil ?_
  have et : Lk.take (lk0 0) p = (none, false, lk0 0) := by simp [Lk.take, Lk.there, lk0]
  have es : Lk.send (lk0 0) [1] = (1, lk0 0) := by simp [Lk.send, Lk.there, lk0]
  repeat (first | refine VC.seq ?_ | refine VC.block ?_ | refine VC.skip ?_)
  refine VC.region ?_
  refine VR.pure rfl rfl (p_build (vs := []) bld33_0x rfl) ?_
  refine VR.new hm rfl rfl (n_boxG rfl) ?_
  intro g5 w hm
  refine VR.val rfl rfl (r_loadAgg (vs := [.int _ _, .int _ _, .int _ _, .int _ _, .slice _ _ _]) Try.isAgg24 Try.sizeOf24 rfl (hm.at_ 1 0 rfl) rfl (agg_at rfl)) ?_
  have hcon := take_c hm.nil_.swap (LkAt.new _ 0) (by unfold Lk.ok lk0; decide) hr hm48 (d := d)
  rw [et] at hcon
  dsimp only [Option.getD, Option.isSome, List.length] at hcon
  refine VR.call rfl rfl (r_call2 Try.call9 rfl rfl) (hcon) ?_
  rintro _ w ⟨cs4, L4, A4, c4, M4, rfl, _, _, hm⟩
  replace hm := hm.pop.pop.pop
  refine VR.pure rfl rfl (p_moveT rfl) ?_
  refine VR.pure rfl rfl (p_extract rfl rfl) ?_
  refine VR.pure rfl rfl (p_extract rfl rfl) ?_
  refine VR.pure rfl rfl (p_extract rfl rfl) ?_
  refine VR.pure rfl rfl (p_assignL rfl) ?_
  refine VR.pure rfl rfl (p_assignB rfl) ?_
  refine VR.pure rfl rfl (p_assignB rfl) ?_
  refine VR.nil ?_
  repeat (first | refine VC.seq ?_ | refine VC.block ?_ | refine VC.skip ?_)
  refine VC.region ?_
  refine VR.pure rfl rfl (p_moveP rfl) ?_
  refine VR.new hm rfl rfl (n_buildSlice1 (vs := [.int _ _]) Try.underlying22 inf5 rfl rfl rfl rfl rfl rfl rfl) ?_
  intro b1 w hm
  refine VR.call rfl rfl (r_call2 Try.call10 rfl rfl) (send_none) ?_
  rintro _ _ ⟨rfl, rfl⟩
  refine VR.pure rfl rfl (p_ne rfl rfl) ?_
  refine VR.pure rfl rfl (p_moveB rfl) ?_
  refine VR.knownF 37 rfl rfl ?_
  refine VR.pureG rfl rfl (p_build (vs := []) bld33_0x rfl) ?_
  refine VR.newG hm rfl rfl (n_boxG rfl) ?_
  intro g6 w hm
  refine VR.newG hm rfl rfl (n_buildSlice1 (vs := [.int _ _]) Try.underlying22 inf5 rfl rfl rfl rfl rfl rfl rfl) ?_
  intro b7 w hm
  obtain ⟨G, hu, hm, hG⟩ := hm.freeze
  have hcon := send_c hm.nil_.swap (LkAt.new _ 0) (l := [1]) (d := 1) (Row.lit (cs := [.int .u8 1]) (hG _ (.head _)))
  rw [es] at hcon
  refine VR.callG rfl rfl (r_call2 Try.call10 rfl rfl) (hcon) ?_
  rintro _ w ⟨G2, cs1, L1, rfl, hu2, _, hm⟩
  replace hm := hm.pop.pop
  replace hu := hu.trans hu2
  refine VR.pureG rfl rfl (p_ne rfl rfl) ?_
  refine VR.pure rfl rfl (p_pickF rfl rfl) ?_
  refine VR.pure rfl rfl (p_moveB rfl) ?_
  refine VR.knownF 44 rfl rfl ?_
  refine VR.pureG rfl rfl (p_moveL rfl) ?_
  refine VR.pureG rfl rfl (p_len Try.underlying22 rfl) ?_
  refine VR.pureG rfl rfl (p_moveL rfl) ?_
  refine VR.pureG rfl rfl (p_len Try.underlying22 rfl) ?_
  refine VR.pureG rfl rfl (p_add64 rfl rfl (by omega)) ?_
  refine VR.pureG rfl rfl (p_gt rfl rfl) ?_
  refine VR.pure rfl rfl (p_pickF rfl rfl) ?_
  refine VR.pure rfl rfl (p_moveB rfl) ?_
  refine VR.knownF 52 rfl rfl ?_
  refine VR.pureG rfl rfl (p_moveB rfl) ?_
  refine VR.pure rfl rfl (p_pickF rfl rfl) ?_
  refine VR.pure rfl rfl (p_moveB rfl) ?_
  refine VR.knownF 55 rfl rfl ?_
  refine VR.pureG rfl rfl (p_moveB rfl) ?_
  refine VR.pure rfl rfl (p_pickF rfl rfl) ?_
  refine VR.pure rfl rfl (p_moveB rfl) ?_
  refine VR.knownF 58 rfl rfl ?_
  refine VR.pureG rfl rfl (p_moveB rfl) ?_
  refine VR.pure rfl rfl (p_pickF rfl rfl) ?_
  refine VR.pure rfl rfl (p_moveB rfl) ?_
  refine VR.knownF 61 rfl rfl ?_
  refine VR.pureG rfl rfl (p_moveB rfl) ?_
  refine VR.pure rfl rfl (p_pickF rfl rfl) ?_
  refine VR.pure rfl rfl (p_moveB rfl) ?_
  refine VR.knownF 64 rfl rfl ?_
  refine VR.pureG rfl rfl (p_moveP rfl) ?_
  refine VR.callG rfl rfl (r_call1 Try.call11 rfl) (known_none) ?_
  rintro _ _ ⟨rfl, rfl⟩
  refine VR.pure rfl rfl (p_pickF rfl rfl) ?_
  refine VR.pure rfl rfl (p_moveB rfl) ?_
  refine VR.knownF 68 rfl rfl ?_
  refine VR.pureG rfl rfl (p_moveP rfl) ?_
  refine VR.callG rfl rfl (r_call1 Try.call12 rfl) (waiting_none) ?_
  rintro _ _ ⟨rfl, rfl⟩
  refine VR.pureG rfl rfl (p_ne rfl rfl) ?_
  refine VR.pure rfl rfl (p_pickF rfl rfl) ?_
  refine VR.pure rfl rfl (p_moveB rfl) ?_
  refine VR.knownF 73 rfl rfl ?_
  refine VR.pureG rfl rfl (p_moveP rfl) ?_
  refine VR.callG rfl rfl (r_call1 Try.call14 rfl) (out_none hm) ?_
  rintro _ w ⟨rfl, hm⟩
  refine VR.pureG rfl rfl (p_build (vs := []) bld24_0x rfl) ?_
  refine VR.callG rfl rfl (r_call2 Try.call13 rfl rfl) (same_packet_c (p := p00) (q := p00) hm (by decide) (Row.nil _) (Row.nil _)) ?_
  rintro _ w ⟨rfl, hm⟩
  refine VR.pureG rfl rfl (p_notD rfl) ?_
  refine VR.pure rfl rfl (p_pickF rfl rfl) ?_
  refine VR.pure rfl rfl (p_moveB rfl) ?_
  refine VR.knownF 80 rfl (decide_eq_false (not_not_intro rfl)) ?_
  refine VR.callG rfl rfl (r_call1 Try.call15 rfl) (new_no hm (by decide)) ?_
  rintro _ w ⟨rfl, hm⟩
  refine VR.pureG rfl rfl (p_neNilP Try.underlying26 rfl) ?_
  refine VR.pure rfl rfl (p_pickF rfl rfl) ?_
  refine VR.pure rfl rfl (p_moveB rfl) ?_
  refine VR.knownF 84 rfl rfl ?_
  refine VR.callG rfl rfl (r_call1 Try.call15 rfl) (new_no hm (by decide)) ?_
  rintro _ w ⟨rfl, hm⟩
  refine VR.pureG rfl rfl (p_neNilP Try.underlying26 rfl) ?_
  refine VR.pure rfl rfl (p_pickF rfl rfl) ?_
  refine VR.nil ?_
  repeat (first | refine VC.seq ?_ | refine VC.block ?_ | refine VC.skip ?_)
  refine VC.condF rfl rfl ?_
  replace hm := hm.none_
  repeat (first | refine VC.seq ?_ | refine VC.block ?_ | refine VC.skip ?_)
  refine VC.region ?_
  refine VR.call rfl rfl (r_call1 Try.call15 rfl) (new_ok hm (by decide)) ?_
  rintro _ w ⟨g8, rfl, hm⟩
  refine VR.pure rfl rfl (p_assignP rfl) ?_
  refine VR.nil ?_
  repeat (first | refine VC.seq ?_ | refine VC.block ?_ | refine VC.skip ?_)
  refine VC.region ?_
  refine VR.pure rfl rfl (p_moveI rfl) ?_
  refine VR.call rfl rfl (r_call2 Try.call16 rfl rfl) (pick_c (by omega)) ?_
  rintro _ _ ⟨⟨i, hi, rfl⟩, rfl⟩
  refine VR.pure rfl rfl (p_add64E (r := ((998 + i : Nat) : Int)) rfl rfl (by omega) (by omega)) ?_
  refine VR.pure rfl rfl (p_assignI rfl) ?_
  refine VR.nil ?_
  have hn : 998 + i < 2000 := by omega
  generalize 998 + i = n at hn
  repeat (first | refine VC.seq ?_ | refine VC.block ?_ | refine VC.skip ?_)
  refine VC.region ?_
  refine VR.pure rfl rfl (p_assignI rfl) ?_
  refine VR.nil ?_
  repeat (first | refine VC.seq ?_ | refine VC.block ?_ | refine VC.skip ?_)
  refine VC.loop (σ := Nat) (fun k => [(12, .pointer (some ⟨g8, 0, none⟩)), (13, .int .i64 n), (14, .int .i64 k)])
    (fun k w => k ≤ n ∧ ∃ G cs L, F.under G ∧ LkAt G.heap (kfull k) cs L ∧ Mem G w ([(g8, .cells cs 33 (0, 0))] :: L :: [])) (fun k => n - k) 0 ⟨rfl, rfl, rfl, trivial⟩
    ⟨by omega, G2, _, [], hu, LkAt.new _ 3, hm⟩ ?_
  rintro k A' w ⟨hk, G, cs, L, hu, hl, hm⟩
  repeat (first | refine VC.seq ?_ | refine VC.block ?_ | refine VC.skip ?_)
  refine VC.region ?_
  refine VR.pure rfl rfl (p_moveI rfl) ?_
  refine VR.pure rfl rfl (p_moveI rfl) ?_
  refine VR.pure rfl rfl (p_lt rfl rfl) ?_
  refine VR.nil ?_
  repeat (first | refine VC.seq ?_ | refine VC.block ?_ | refine VC.skip ?_)
  refine VC.condD rfl (fun h => ?_) (fun h => ?_)
  · repeat (first | refine VC.seq ?_ | refine VC.block ?_ | refine VC.skip ?_)
    by_cases h1 : k < 1000
    · have es := kfull_less h1
      repeat (first | refine VC.seq ?_ | refine VC.block ?_ | refine VC.skip ?_)
      refine VC.region ?_
      refine VR.pure rfl rfl (p_moveP rfl) ?_
      refine VR.new hm rfl rfl (n_buildSlice1 (vs := [.int _ _]) Try.underlying22 inf5 rfl rfl rfl rfl rfl rfl rfl) ?_
      intro b1 w hm
      obtain ⟨G1, hu1, hm, hG⟩ := hm.freeze
      have hcon := send_c hm (hl.mono hu1.heap) (l := [1]) (d := 1) (Row.lit (cs := [.int .u8 1]) (hG _ (.head _)))
      rw [es] at hcon
      refine VR.call rfl rfl (r_call2 Try.call10 rfl rfl) (hcon) ?_
      rintro _ w ⟨G2, cs1, L1, rfl, hu2, hl, hm⟩
      refine VR.pure rfl rfl (p_assignI rfl) ?_
      refine VR.nil ?_
      repeat (first | refine VC.seq ?_ | refine VC.block ?_ | refine VC.skip ?_)
      refine VC.region ?_
      refine VR.pure rfl rfl (p_moveI rfl) ?_
      refine VR.pure rfl rfl (p_eq rfl rfl) ?_
      refine VR.pure rfl rfl (p_moveI rfl) ?_
      refine VR.pure rfl rfl (p_lt rfl rfl) ?_
      refine VR.pure rfl rfl (p_neB Try.underlying4 rfl rfl) ?_
      refine VR.pure rfl rfl (p_moveB rfl) ?_
      refine VR.knownF 105 rfl (by rw [decide_eq_true (by omega : ((k : Nat) : Int) < 1000)]; rfl) ?_
      refine VR.pureG rfl rfl (p_moveI rfl) ?_
      refine VR.pureG rfl rfl (p_ne rfl rfl) ?_
      refine VR.pureG rfl rfl (p_moveB rfl) ?_
      refine VR.knownF 108 rfl rfl ?_
      refine VR.pass rfl rfl ?_
      refine VR.pass rfl rfl ?_
      refine VR.pureG rfl rfl (p_pickF rfl rfl) ?_
      refine VR.pure rfl rfl (p_pickF rfl rfl) ?_
      refine VR.nil ?_
      repeat (first | refine VC.seq ?_ | refine VC.block ?_ | refine VC.skip ?_)
      refine VC.condF rfl rfl ?_
      repeat (first | refine VC.seq ?_ | refine VC.block ?_ | refine VC.skip ?_)
      repeat (first | refine VC.seq ?_ | refine VC.block ?_ | refine VC.skip ?_)
      refine VC.region ?_
      refine VR.pure rfl rfl (p_moveI rfl) ?_
      refine VR.pure rfl rfl (p_add64 rfl rfl (by omega)) ?_
      refine VR.pure rfl rfl (p_assignI rfl) ?_
      refine VR.nil ?_
      exact ⟨k + 1, ⟨rfl, rfl, rfl, trivial⟩, ⟨by omega, G2, cs1, L1, (hu.trans hu1).trans hu2, hl, hm⟩, by omega⟩
    · have es := kfull_more (by omega : 1000 ≤ k)
      repeat (first | refine VC.seq ?_ | refine VC.block ?_ | refine VC.skip ?_)
      refine VC.region ?_
      refine VR.pure rfl rfl (p_moveP rfl) ?_
      refine VR.new hm rfl rfl (n_buildSlice1 (vs := [.int _ _]) Try.underlying22 inf5 rfl rfl rfl rfl rfl rfl rfl) ?_
      intro b1 w hm
      obtain ⟨G1, hu1, hm, hG⟩ := hm.freeze
      have hcon := send_c hm (hl.mono hu1.heap) (l := [1]) (d := 1) (Row.lit (cs := [.int .u8 1]) (hG _ (.head _)))
      rw [es] at hcon
      refine VR.call rfl rfl (r_call2 Try.call10 rfl rfl) (hcon) ?_
      rintro _ w ⟨G2, cs1, L1, rfl, hu2, hl, hm⟩
      refine VR.pure rfl rfl (p_assignI rfl) ?_
      refine VR.nil ?_
      repeat (first | refine VC.seq ?_ | refine VC.block ?_ | refine VC.skip ?_)
      refine VC.region ?_
      refine VR.pure rfl rfl (p_moveI rfl) ?_
      refine VR.pure rfl rfl (p_eq rfl rfl) ?_
      refine VR.pure rfl rfl (p_moveI rfl) ?_
      refine VR.pure rfl rfl (p_lt rfl rfl) ?_
      refine VR.pure rfl rfl (p_neB Try.underlying4 rfl rfl) ?_
      refine VR.pure rfl rfl (p_moveB rfl) ?_
      refine VR.knownF 105 rfl (by rw [decide_eq_false (by omega : ¬ ((k : Nat) : Int) < 1000)]; rfl) ?_
      refine VR.pureG rfl rfl (p_moveI rfl) ?_
      refine VR.pureG rfl rfl (p_ne rfl rfl) ?_
      refine VR.pureG rfl rfl (p_moveB rfl) ?_
      refine VR.knownT 108 rfl rfl ?_
      refine VR.pureG rfl rfl (p_moveI rfl) ?_
      refine VR.pureG rfl rfl (p_ne rfl rfl) ?_
      refine VR.pureG rfl rfl (p_pickT rfl rfl) ?_
      refine VR.pure rfl rfl (p_pickF rfl rfl) ?_
      refine VR.nil ?_
      repeat (first | refine VC.seq ?_ | refine VC.block ?_ | refine VC.skip ?_)
      refine VC.condF rfl rfl ?_
      repeat (first | refine VC.seq ?_ | refine VC.block ?_ | refine VC.skip ?_)
      repeat (first | refine VC.seq ?_ | refine VC.block ?_ | refine VC.skip ?_)
      refine VC.region ?_
      refine VR.pure rfl rfl (p_moveI rfl) ?_
      refine VR.pure rfl rfl (p_add64 rfl rfl (by omega)) ?_
      refine VR.pure rfl rfl (p_assignI rfl) ?_
      refine VR.nil ?_
      exact ⟨k + 1, ⟨rfl, rfl, rfl, trivial⟩, ⟨by omega, G2, cs1, L1, (hu.trans hu1).trans hu2, hl, hm⟩, by omega⟩
  · repeat (first | refine VC.seq ?_ | refine VC.block ?_ | refine VC.skip ?_)
    refine VC.exit ?_
    have hkn : k = n := by omega
    subst hkn
    have ew : (if (kfull k).there then (kfull k).wait.length else 0 : Int) = min (k : Int) 1000 := by
      rw [if_pos (by simp [Lk.there, kfull])]
      simp [kfull]
      omega
    have hw := waiting_c hm hl
    rw [ew] at hw
    have en := kfull_nil k
    have el := kfull_long k
    have hs1 := send_c hm hl (B := none) (m := 0) (d := 0) (l := []) (Row.nil _)
    rw [en] at hs1
    repeat (first | refine VC.seq ?_ | refine VC.block ?_ | refine VC.skip ?_)
    refine VC.region ?_
    refine VR.pure rfl rfl (p_moveP rfl) ?_
    refine VR.call rfl rfl (r_call1 Try.call12 rfl) (hw) ?_
    rintro _ w ⟨rfl, rfl⟩
    refine VR.pure rfl rfl (p_moveI rfl) ?_
    refine VR.pure rfl rfl (p_min rfl rfl) ?_
    refine VR.pure rfl rfl (p_eq rfl rfl) ?_
    refine VR.pure rfl rfl (p_moveB rfl) ?_
    refine VR.knownT 118 rfl (decide_eq_true rfl) ?_
    refine VR.pureG rfl rfl (p_moveP rfl) ?_
    refine VR.callG rfl rfl (r_call2 Try.call10 rfl rfl) (hs1) ?_
    rintro _ w ⟨G2, cs1, L1, rfl, hu2, hl, hm⟩
    refine VR.pureG rfl rfl (p_eq rfl rfl) ?_
    refine VR.pure rfl rfl (p_pickT rfl rfl) ?_
    refine VR.pure rfl rfl (p_moveB rfl) ?_
    refine VR.knownT 123 rfl rfl ?_
    refine VR.pureG rfl rfl (p_moveP rfl) ?_
    refine VR.newG hm rfl rfl (n_makeSlice (s := 1) (bytes := 1) Try.underlying22 inf5 rfl rfl rfl rfl rfl (by omega) (by omega)) ?_
    intro b12 w hm
    obtain ⟨G3, hu3, hm, hG⟩ := hm.freeze
    have hcon := send_c hm (hl.mono hu3.heap) (d := Int.toNat 1048477) (made_row (hG _ (.head _)))
    rw [el] at hcon
    refine VR.callG rfl rfl (r_call2 Try.call10 rfl rfl) (hcon) ?_
    rintro _ w ⟨G4, cs3, L3, rfl, hu4, _, hm⟩
    refine VR.pureG rfl rfl (p_eq rfl rfl) ?_
    refine VR.pure rfl rfl (p_pickT rfl rfl) ?_
    refine VR.pure rfl rfl (p_assignB rfl) ?_
    refine VR.nil ?_
    repeat (first | refine VC.seq ?_ | refine VC.block ?_ | refine VC.skip ?_)
    refine VC.ret ⟨_, ResOf.r1 (v := .bool _) rfl rfl, ?_⟩
    exact ⟨rfl, (hm.none_).shrink (((hu.trans hu2).trans hu3).trans hu4)⟩
end Go.Bd
namespace Go.Proofs.Ytfaihpikeagpcaa
open Go.Bd Go.ChangeShapes Go.WideShapes

set_option maxRecDepth 100000 in
theorem full_lifted (os : Os) (started : os.Started) (H : Type) (enc : TypeId × Value → H) :
    ReturnsInHanded {} Try.checked os 3 .any (Rows.linkFullSpec.pre6 enc Try.prog Try.f3 Rows.linkFullRow.domain false) (Rows.linkFullSpec.post enc Try.prog Try.f3 false true false false) := by
  refine law_frame (C := Try.checked) (tb := 4) (by kernel_rfl) (by kernel_rfl) started (by kernel_rfl) Try.func3 rfl rfl Try.underlying4 (by kernel_rfl) ?_
    (ChangeSpec.witness6 (enc := enc) (C := Try.checked) false ⟨#[], #[.int .i64 0, .agg #[.int .i64 0, .int .i64 0, .int .i64 0, .int .i64 0, .slice none 0 0]], []⟩ 8 (by kernel_rfl) (by kernel_rfl) (by kernel_rfl) (by kernel_rfl)) ?_
  · intro ds hl
    match ds, hl with
    | [d1, d2], _ => rfl
  · intro W base args ds p hval hA hwt
    replace hA : DataW.TrodAll enc Try.prog W 0 (fun _ => true) true Try.f3.params.toList args.toList ds p := hA
    rw [Try.params3] at hA hval
    replace hwt : (DataW.weightsEach Try.prog [3, 24] ds).all (· ≤ reachBytes) = true := hwt
    obtain ⟨v0, vs0, d0, ds0, p0, q0, hargs, rfl, rfl, h0, r0⟩ := trodAll_cons hA
    obtain ⟨v1, vs1, d1, ds1, p1, q1, rfl, rfl, rfl, h1, r1⟩ := trodAll_cons r0
    obtain ⟨rfl, rfl, rfl⟩ := trodAll_nil r1
    obtain rfl : args = #[v0, v1] := by cases args; simp_all
    obtain ⟨a0, rfl, _, _, w0⟩ := open_int Try.underlying3 (hval 0 3 v0 rfl rfl) h0
    obtain ⟨q0, q1, q2, q3, B, m, d, xs, rfl, _, _, _, _, hmd, _, hd, hr, _⟩ := arg24 (hval 1 24 v1 rfl rfl) h1 (LightAll.cons (LightAll.cons hwt).2).1
    exact link_full_c (p := ⟨q0, q1, q2, q3, xs⟩) (Mem.of W) hr (by unfold reachBytes at hd; omega)

theorem full : Rows.LinkFullSaid :=
  OpenClaim.holds_of_wide 3 Try.f3 rfl rfl rfl rfl rfl rfl rfl ⟨rfl, rfl, rfl, rfl, rfl⟩ rfl rfl rfl rfl rfl (by kernel_rfl) Try.func3 (by kernel_rfl)
    (of_decide_eq_true (by kernel_rfl)) (by unfold Func.isWrapper; rw [if_neg (of_decide_eq_false (by kernel_rfl))]; exact ⟨rfl, rfl⟩)
    (fun os started H enc _ => full_lifted os started H enc)
end Go.Proofs.Ytfaihpikeagpcaa
