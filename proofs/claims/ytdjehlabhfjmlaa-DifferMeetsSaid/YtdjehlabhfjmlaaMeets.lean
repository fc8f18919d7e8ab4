/- DifferMeets: of histories such as servers come to, a learner that is cut as it is told, again and again, is told to take deeds or an image in the end, within as many cuts as it has deeds; if deeds, it has just the leader's history up to there; and nothing that was cut off was the leader's. Conditions: none. -/
import Derived.Test.Ytdjehlabhfjmlaa21d
import Derived.Test.YtdjehlabhfjmlaaFrame
namespace Go.Bd
open Go.Proofs
set_option linter.unusedVariables false

set_option maxHeartbeats 4000000 in
theorem differ_meets_c {F : Env} {w : World} {A0 : Option Addr} {n0 c0 : Nat} {nums : List Int} {leader learner purged : Int} (hm : Mem F w []) (hc0 : n0 ≤ c0 ∧ c0 ≤ maxLen) (hr : Row F.heap A0 n0 (nums.map (Value.int .i64))) :
    Calls Try.prog 5 #[.slice A0 n0 c0, .int .i64 leader, .int .i64 learner, .int .i64 purged] w (Ret fun v w' => v = .bool true ∧ Mem F w' []) := by
  refine Calls.of_vc Try.func5 rfl Try.ntmps5 rfl ?_
  repeat (first | refine VC.seq ?_ | refine VC.block ?_ | refine VC.skip ?_)
  refine VC.region ?_
  refine VR.pure rfl rfl (p_assignB rfl) ?_
  refine VR.nil ?_
  repeat (first | refine VC.seq ?_ | refine VC.block ?_ | refine VC.skip ?_)
  refine VC.region ?_
  refine VR.call rfl rfl (r_call0 Try.call7) (awake_c hm) ?_
  rintro _ w ⟨rfl, hm⟩
  refine VR.pure rfl rfl (p_not rfl) ?_
  refine VR.nil ?_
  repeat (first | refine VC.seq ?_ | refine VC.block ?_ | refine VC.skip ?_)
  refine VC.condF rfl rfl ?_
  repeat (first | refine VC.seq ?_ | refine VC.block ?_ | refine VC.skip ?_)
  refine VC.region ?_
  refine VR.pure rfl rfl (p_moveL rfl) ?_
  refine VR.call rfl rfl (r_call1 Try.call13 rfl) (histories_c hm hc0 hr) ?_
  rintro _ w ⟨G, H, Φ, e, rfl, hu, hm, hgood, he, hok⟩
  refine VR.new hm rfl rfl (n_alloc Try.zeroValue33 rfl) ?_
  intro g9 w hm
  refine VR.store (cs' := (cells4 H)) (v := .agg _) Try.sizeOf33 rfl rfl rfl rfl rfl hm 0 0 rfl (Nat.ble_eq.mp rfl) rfl ?_
  intro w hm
  refine VR.nil ?_
  repeat (first | refine VC.seq ?_ | refine VC.block ?_ | refine VC.skip ?_)
  refine VC.loud (Kept G [[(g9, .cells (cells4 H) 33 (0, 0))]]) [1, 5] rfl (by kernel_rfl) (Kept.here0 hm.drew) ?_
  replace hm := hm.drew
  refine VL.pure rfl rfl rfl (p_moveI rfl) ?_
  refine VL.call rfl rfl rfl (r_call2 Try.call14 rfl rfl) (pick_c (by omega)) ?_
  rintro _ _ ⟨⟨a, ha, rfl⟩, rfl⟩
  refine ⟨Kept.here0 hm, ?_⟩
  refine VL.pure rfl rfl rfl (p_idxA1 Try.underlying33 Try.sizeOf23 rfl rfl (Int.ofNat_lt.1 ha)) ?_
  refine VL.read rfl rfl rfl (fun w' hw' => r_load Try.isAgg23 rfl (hw'.at_ 0 0 rfl) (cells4_at H (Int.ofNat_lt.1 ha))) ?_
  refine VL.pure rfl rfl rfl (p_moveI rfl) ?_
  refine VL.call rfl rfl rfl (r_call2 Try.call14 rfl rfl) (pick_c (by omega)) ?_
  rintro _ _ ⟨⟨b, hb, rfl⟩, rfl⟩
  refine ⟨Kept.here0 hm, ?_⟩
  refine VL.pure rfl rfl rfl (p_idxA1 Try.underlying33 Try.sizeOf23 rfl rfl (Int.ofNat_lt.1 hb)) ?_
  refine VL.read rfl rfl rfl (fun w' hw' => r_load Try.isAgg23 rfl (hw'.at_ 0 0 rfl) (cells4_at H (Int.ofNat_lt.1 hb))) ?_
  refine VL.pure rfl rfl rfl (p_assignL rfl) ?_
  refine VL.pure rfl rfl rfl (p_assignL rfl) ?_
  refine VL.nil ?_
  replace ha : a < 4 := by omega
  replace hb : b < 4 := by omega
  have hlen : ∀ i, i < 4 → (H i).n ≤ 48 := fun i hi => by
    have h1 := hgood.len _ (hok i hi).2.2.2
    have h2 := (hok i hi).1.len
    rw [List.length_map] at h2
    omega
  have hn0 := hlen 0 (by omega)
  have hn1 := hlen 1 (by omega)
  have hn2 := hlen 2 (by omega)
  have hn3 := hlen 3 (by omega)
  have hsum : (H b).n ≤ (H 0).n + (H 1).n + (H 2).n + (H 3).n := by
    match b, hb with
    | 0, _ => omega
    | 1, _ => omega
    | 2, _ => omega
    | 3, _ => omega
  have hna := hlen a ha
  have hnb := hlen b hb
  obtain ⟨hra, hca, hca2, hpa⟩ := hok a ha
  obtain ⟨hrb, hcb, hcb2, hpb⟩ := hok b hb
  have hpair := hgood.pair hpa hpb
  generalize hxs : (H a).xs = xs at hra hpair
  generalize hys : (H b).xs = ys at hrb hpair
  generalize hA : (H a).A = Aa at hra
  generalize hna' : (H a).n = na at hra hca hna
  generalize hca' : (H a).c = ca at hca hca2
  generalize hB : (H b).A = Bb at hrb
  generalize hnb' : (H b).n = nb at hrb hcb hnb hsum
  generalize hcb' : (H b).c = cb at hcb hcb2
  have hlx : xs.length = na := by have := hra.len; rwa [List.length_map] at this
  have hly : ys.length = nb := by have := hrb.len; rwa [List.length_map] at this
  repeat (first | refine VC.seq ?_ | refine VC.block ?_ | refine VC.skip ?_)
  refine VC.region ?_
  refine VR.pure rfl rfl (p_moveI rfl) ?_
  refine VR.pure rfl rfl (p_moveL rfl) ?_
  refine VR.pure rfl rfl (p_len Try.underlying23 rfl) ?_
  refine VR.pure rfl rfl (p_add64 rfl rfl (by omega)) ?_
  refine VR.call rfl rfl (r_call2 Try.call14 rfl rfl) (pick_c (by omega)) ?_
  rintro _ _ ⟨⟨k, hk, rfl⟩, rfl⟩
  refine VR.pure rfl rfl (p_assignI rfl) ?_
  refine VR.nil ?_
  replace hk : k ≤ na := by omega
  have hrk : Row G.heap Aa k ((xs.take k).map (Value.int .i64)) := by rw [List.map_take]; exact hra.take hk
  repeat (first | refine VC.seq ?_ | refine VC.block ?_ | refine VC.skip ?_)
  refine VC.region ?_
  refine VR.pure rfl rfl (p_moveL rfl) ?_
  refine VR.pure rfl rfl (p_moveI rfl) ?_
  refine VR.pure rfl rfl (p_sliceHN (h := k) Try.underlying23 Try.sizeOf22 rfl rfl (by omega)) ?_
  refine VR.call rfl rfl (r_call1 Try.call15 rfl) (last_c hm (by unfold maxLen; omega) hrk) ?_
  rintro _ w ⟨rfl, hm⟩
  refine VR.pure rfl rfl (p_assignI rfl) ?_
  refine VR.nil ?_
  obtain ⟨Al, hAl, hrl⟩ := hra.dropE1 (l := k) (c := ca) hk hca
  rw [← List.map_drop] at hrl
  repeat (first | refine VC.seq ?_ | refine VC.block ?_ | refine VC.skip ?_)
  refine VC.region ?_
  refine VR.pure rfl rfl (p_moveL rfl) ?_
  refine VR.pure rfl rfl (p_moveI rfl) ?_
  refine VR.pure rfl rfl (p_sliceLE Try.underlying23 Try.sizeOf22 rfl rfl hk hAl rfl rfl) ?_
  refine VR.pure rfl rfl (p_assignL rfl) ?_
  refine VR.nil ?_
  repeat (first | refine VC.seq ?_ | refine VC.block ?_ | refine VC.skip ?_)
  refine VC.region ?_
  refine VR.pure rfl rfl (p_assignI rfl) ?_
  refine VR.nil ?_
  repeat (first | refine VC.seq ?_ | refine VC.block ?_ | refine VC.skip ?_)
  refine VC.loop (σ := Nat × Env × Option Addr × Nat × Nat × List Int) (fun s => [(9, .pointer (some ⟨g9, 0, none⟩)), (10, .slice Aa na ca), (11, .slice s.2.2.1 s.2.2.2.1 s.2.2.2.2.1), (13, .int .i64 (lastOf (xs.take k))), (14, .slice Al (na - k) (ca - k)), (15, .int .i64 s.1)])
    (fun s w => G.under s.2.1 ∧ Mem s.2.1 w [[(g9, .cells (cells4 H) 33 (0, 0))]] ∧ Row s.2.1.heap s.2.2.1 s.2.2.2.1 (s.2.2.2.2.2.map (Value.int .i64)) ∧ s.2.2.2.1 ≤ s.2.2.2.2.1 ∧ s.2.2.2.2.1 ≤ maxLen ∧ Pair xs s.2.2.2.2.2 ∧ s.1 + s.2.2.2.1 ≤ nb)
    (fun s => s.2.2.2.1) (0, G, Bb, nb, cb, ys) ⟨rfl, rfl, rfl, rfl, rfl, rfl, trivial⟩ ⟨Env.under_refl _, hm, hrb, hcb, hcb2, hpair, by simp only; omega⟩ ?_
  clear hrb hpair hly hys
  rintro ⟨n, K, B, m, d, ys⟩ A' w ⟨hu2, hm, hrb, hmd, hd, hpair, hnm⟩
  dsimp only at hu2 hm hrb hmd hd hpair hnm ⊢
  have hly : ys.length = m := by have := hrb.len; rwa [List.length_map] at this
  repeat (first | refine VC.seq ?_ | refine VC.block ?_ | refine VC.skip ?_)
  refine VC.region ?_
  refine VR.pure rfl rfl (p_moveI rfl) ?_
  refine VR.pure rfl rfl (p_idxA1 (j := 0) Try.underlying33 Try.sizeOf23 rfl rfl (by omega)) ?_
  refine VR.val rfl rfl (r_load Try.isAgg23 rfl (hm.at_ 0 0 rfl) (cells4_at H (i := 0) (by omega))) ?_
  refine VR.pure rfl rfl (p_len Try.underlying23 rfl) ?_
  refine VR.pure rfl rfl (p_idxA1 (j := 1) Try.underlying33 Try.sizeOf23 rfl rfl (by omega)) ?_
  refine VR.val rfl rfl (r_load Try.isAgg23 rfl (hm.at_ 0 0 rfl) (cells4_at H (i := 1) (by omega))) ?_
  refine VR.pure rfl rfl (p_len Try.underlying23 rfl) ?_
  refine VR.pure rfl rfl (p_add64 rfl rfl (by omega)) ?_
  refine VR.pure rfl rfl (p_idxA1 (j := 2) Try.underlying33 Try.sizeOf23 rfl rfl (by omega)) ?_
  refine VR.val rfl rfl (r_load Try.isAgg23 rfl (hm.at_ 0 0 rfl) (cells4_at H (i := 2) (by omega))) ?_
  refine VR.pure rfl rfl (p_len Try.underlying23 rfl) ?_
  refine VR.pure rfl rfl (p_add64 rfl rfl (by omega)) ?_
  refine VR.pure rfl rfl (p_idxA1 (j := 3) Try.underlying33 Try.sizeOf23 rfl rfl (by omega)) ?_
  refine VR.val rfl rfl (r_load Try.isAgg23 rfl (hm.at_ 0 0 rfl) (cells4_at H (i := 3) (by omega))) ?_
  refine VR.pure rfl rfl (p_len Try.underlying23 rfl) ?_
  refine VR.pure rfl rfl (p_add64 rfl rfl (by omega)) ?_
  refine VR.pure rfl rfl (p_add64 rfl rfl (by omega)) ?_
  refine VR.pure rfl rfl (p_le rfl rfl) ?_
  refine VR.nil ?_
  repeat (first | refine VC.seq ?_ | refine VC.block ?_ | refine VC.skip ?_)
  refine VC.condD rfl (fun h => ?_) (fun h => ?_)
  rotate_left
  · omega
  · repeat (first | refine VC.seq ?_ | refine VC.block ?_ | refine VC.skip ?_)
    refine VC.region ?_
    refine VR.pure rfl rfl (p_moveI rfl) ?_
    refine VR.pure rfl rfl (p_moveL rfl) ?_
    refine VR.pure rfl rfl (p_moveL rfl) ?_
    refine VR.call rfl rfl (r_call1 Try.call15 rfl) (last_c hm (by unfold maxLen; omega) hrb) ?_
    rintro _ w ⟨rfl, hm⟩
    refine VR.call rfl rfl (r_call3 Try.call9 rfl rfl rfl) (way_c hm (by unfold maxLen; omega) (hrl.le hu2.heap)) ?_
    rintro _ w ⟨rfl, hm⟩
    refine VR.pure rfl rfl (p_moveT rfl) ?_
    refine VR.pure rfl rfl (p_extract rfl rfl) ?_
    refine VR.pure rfl rfl (p_extract rfl rfl) ?_
    refine VR.pure rfl rfl (p_assignI rfl) ?_
    refine VR.pure rfl rfl (p_assignI rfl) ?_
    refine VR.nil ?_
    repeat (first | refine VC.seq ?_ | refine VC.block ?_ | refine VC.skip ?_)
    refine VC.region ?_
    refine VR.pure rfl rfl (p_moveI rfl) ?_
    refine VR.nil ?_
    rcases way_falls (lastOf (xs.take k)) (xs.drop k) (lastOf ys) with ⟨h1, h2⟩ | ⟨h1, h2, h3⟩ | ⟨h1, h2, h3⟩
    · have hd7 := hpair.deed h1
      repeat (first | refine VC.seq ?_ | refine VC.block ?_ | refine VC.skip ?_)
      refine VC.region ?_
      refine VR.pure rfl rfl (p_eq rfl rfl) ?_
      refine VR.pure rfl rfl (p_assignB rfl) ?_
      refine VR.nil ?_
      repeat (first | refine VC.seq ?_ | refine VC.block ?_ | refine VC.skip ?_)
      refine VC.condT rfl (decide_eq_true h1) ?_
      repeat (first | refine VC.seq ?_ | refine VC.block ?_ | refine VC.skip ?_)
      refine VC.region ?_
      refine VR.pure rfl rfl (p_moveI rfl) ?_
      refine VR.pure rfl rfl (p_moveL rfl) ?_
      refine VR.call rfl rfl (r_call1 Try.call15 rfl) (last_c hm (by unfold maxLen; omega) hrb) ?_
      rintro _ w ⟨rfl, hm⟩
      refine VR.pure rfl rfl (p_eq rfl rfl) ?_
      refine VR.pure rfl rfl (p_moveB rfl) ?_
      refine VR.knownT 80 rfl (decide_eq_true h2) ?_
      refine VR.pureG rfl rfl (p_moveL rfl) ?_
      refine VR.pureG rfl rfl (p_moveL rfl) ?_
      refine VR.callG rfl rfl (r_call2 Try.call16 rfl rfl) (begins_c hm ⟨hca, hca2⟩ hrb (hra.le hu2.heap) hd7) ?_
      rintro _ w ⟨rfl, hm⟩
      refine VR.pure rfl rfl (p_pickT rfl rfl) ?_
      refine VR.pure rfl rfl (p_assignB rfl) ?_
      refine VR.nil ?_
      repeat (first | refine VC.seq ?_ | refine VC.block ?_ | refine VC.skip ?_)
      refine VC.ret ⟨_, ResOf.r1 (v := .bool _) rfl rfl, ?_⟩
      exact ⟨rfl, (hm.shrink (hu.trans hu2)).none_⟩
    · repeat (first | refine VC.seq ?_ | refine VC.block ?_ | refine VC.skip ?_)
      refine VC.region ?_
      refine VR.pure rfl rfl (p_eq rfl rfl) ?_
      refine VR.pure rfl rfl (p_assignB rfl) ?_
      refine VR.nil ?_
      repeat (first | refine VC.seq ?_ | refine VC.block ?_ | refine VC.skip ?_)
      refine VC.condF rfl (decide_eq_false (by omega)) ?_
      repeat (first | refine VC.seq ?_ | refine VC.block ?_ | refine VC.skip ?_)
      refine VC.region ?_
      refine VR.pure rfl rfl (p_eq rfl rfl) ?_
      refine VR.pure rfl rfl (p_assignB rfl) ?_
      refine VR.nil ?_
      repeat (first | refine VC.seq ?_ | refine VC.block ?_ | refine VC.skip ?_)
      refine VC.condT rfl (decide_eq_true h1) ?_
      repeat (first | refine VC.seq ?_ | refine VC.block ?_ | refine VC.skip ?_)
      refine VC.region ?_
      refine VR.pure rfl rfl (p_moveI rfl) ?_
      refine VR.pure rfl rfl (p_eq rfl rfl) ?_
      refine VR.pure rfl rfl (p_moveB rfl) ?_
      refine VR.knownT 89 rfl (decide_eq_true h2) ?_
      refine VR.pureG rfl rfl (p_moveL rfl) ?_
      refine VR.callG rfl rfl (r_call1 Try.call15 rfl) (last_c hm (by unfold maxLen; omega) hrb) ?_
      rintro _ w ⟨rfl, hm⟩
      refine VR.pureG rfl rfl (p_moveI rfl) ?_
      refine VR.pureG rfl rfl (p_lt rfl rfl) ?_
      refine VR.pure rfl rfl (p_pickT rfl rfl) ?_
      refine VR.pure rfl rfl (p_assignB rfl) ?_
      refine VR.nil ?_
      repeat (first | refine VC.seq ?_ | refine VC.block ?_ | refine VC.skip ?_)
      refine VC.ret ⟨_, ResOf.r1 (v := .bool _) rfl rfl, ?_⟩
      exact ⟨congrArg Value.bool (decide_eq_true h3), (hm.shrink (hu.trans hu2)).none_⟩
    · have htr := hpair.truncs h1
      dsimp only at htr
      have hpc := hpair.cut (way (lastOf (xs.take k)) (xs.drop k) (lastOf ys)).2
      repeat (first | refine VC.seq ?_ | refine VC.block ?_ | refine VC.skip ?_)
      refine VC.region ?_
      refine VR.pure rfl rfl (p_eq rfl rfl) ?_
      refine VR.pure rfl rfl (p_assignB rfl) ?_
      refine VR.nil ?_
      repeat (first | refine VC.seq ?_ | refine VC.block ?_ | refine VC.skip ?_)
      refine VC.condF rfl (decide_eq_false (by omega)) ?_
      repeat (first | refine VC.seq ?_ | refine VC.block ?_ | refine VC.skip ?_)
      refine VC.region ?_
      refine VR.pure rfl rfl (p_eq rfl rfl) ?_
      refine VR.pure rfl rfl (p_assignB rfl) ?_
      refine VR.nil ?_
      repeat (first | refine VC.seq ?_ | refine VC.block ?_ | refine VC.skip ?_)
      refine VC.condF rfl (decide_eq_false (by omega)) ?_
      repeat (first | refine VC.seq ?_ | refine VC.block ?_ | refine VC.skip ?_)
      refine VC.region ?_
      refine VR.pure rfl rfl (p_eq rfl rfl) ?_
      refine VR.pure rfl rfl (p_assignB rfl) ?_
      refine VR.nil ?_
      repeat (first | refine VC.seq ?_ | refine VC.block ?_ | refine VC.skip ?_)
      refine VC.condT rfl (decide_eq_true h1) ?_
      generalize hz : (way (lastOf (xs.take k)) (xs.drop k) (lastOf ys)).2 = z at h2 h3 htr hpc
      repeat (first | refine VC.seq ?_ | refine VC.block ?_ | refine VC.skip ?_)
      refine VC.region ?_
      refine VR.pure rfl rfl (p_moveI rfl) ?_
      refine VR.pure rfl rfl (p_moveL rfl) ?_
      refine VR.call rfl rfl (r_call1 Try.call15 rfl) (last_c hm (by unfold maxLen; omega) hrb) ?_
      rintro _ w ⟨rfl, hm⟩
      refine VR.pure rfl rfl (p_ge rfl rfl) ?_
      refine VR.pure rfl rfl (p_moveB rfl) ?_
      refine VR.knownF 101 rfl (decide_eq_false (by omega)) ?_
      refine VR.pureG rfl rfl (p_moveI rfl) ?_
      refine VR.pureG rfl rfl (p_moveI rfl) ?_
      refine VR.pureG rfl rfl (p_lt rfl rfl) ?_
      refine VR.pure rfl rfl (p_pickF rfl rfl) ?_
      refine VR.nil ?_
      repeat (first | refine VC.seq ?_ | refine VC.block ?_ | refine VC.skip ?_)
      refine VC.condF rfl (decide_eq_false (by omega)) ?_
      repeat (first | refine VC.seq ?_ | refine VC.block ?_ | refine VC.skip ?_)
      refine VC.region ?_
      refine VR.pure rfl rfl (p_moveL rfl) ?_
      refine VR.pure rfl rfl (p_moveI rfl) ?_
      refine VR.call rfl rfl (r_call2 Try.call17 rfl rfl) (cut_c (z := z) hm (by omega) hrb) ?_
      rintro _ w ⟨A18, c18, L18, rfl, ho, hm⟩
      refine VR.pure rfl rfl (p_assignL rfl) ?_
      refine VR.nil ?_
      obtain ⟨K2, hu3, hm, hK2⟩ := hm.freeze
      have hr18 := ho.row1 hK2
      have hle := ho.le
      generalize hq : (upto z ys).length = q at ho hr18 hle htr
      repeat (first | refine VC.seq ?_ | refine VC.block ?_ | refine VC.skip ?_)
      refine VC.region ?_
      refine VR.pure rfl rfl (p_moveL rfl) ?_
      refine VR.pure rfl rfl (p_len Try.underlying23 rfl) ?_
      refine VR.pure rfl rfl (p_assignI rfl) ?_
      refine VR.nil ?_
      repeat (first | refine VC.seq ?_ | refine VC.block ?_ | refine VC.skip ?_)
      refine VC.loop (σ := Nat) (fun i => [(9, .pointer (some ⟨g9, 0, none⟩)), (10, .slice Aa na ca), (11, .slice B m d), (13, .int .i64 (lastOf (xs.take k))), (14, .slice Al (na - k) (ca - k)), (15, .int .i64 n), (18, .slice A18 q c18), (19, .int .i64 i)])
        (fun i w => Mem K2 w [[(g9, .cells (cells4 H) 33 (0, 0))]] ∧ q ≤ i ∧ i ≤ m) (fun i => m - i) q ⟨rfl, rfl, rfl, rfl, rfl, rfl, rfl, rfl, trivial⟩ ⟨hm, by omega, by omega⟩ ?_
      rintro i A2 w ⟨hm, hqi, him⟩
      repeat (first | refine VC.seq ?_ | refine VC.block ?_ | refine VC.skip ?_)
      refine VC.region ?_
      refine VR.pure rfl rfl (p_moveI rfl) ?_
      refine VR.pure rfl rfl (p_moveL rfl) ?_
      refine VR.pure rfl rfl (p_len Try.underlying23 rfl) ?_
      refine VR.pure rfl rfl (p_lt rfl rfl) ?_
      refine VR.nil ?_
      repeat (first | refine VC.seq ?_ | refine VC.block ?_ | refine VC.skip ?_)
      refine VC.condD rfl (fun h4 => ?_) (fun h4 => ?_)
      · have him' : i < m := by omega
        obtain ⟨b2, off2, blk2, T2, fr2, rfl, hb2, hc2⟩ := (hrb.le hu3.heap).get (by omega)
        repeat (first | refine VC.seq ?_ | refine VC.block ?_ | refine VC.skip ?_)
        refine VC.region ?_
        refine VR.pure rfl rfl (p_assignI rfl) ?_
        refine VR.nil ?_
        repeat (first | refine VC.seq ?_ | refine VC.block ?_ | refine VC.skip ?_)
        refine VC.loop (σ := Nat) (fun j => [(9, .pointer (some ⟨g9, 0, none⟩)), (10, .slice Aa na ca), (11, .slice (some ⟨b2, off2, none⟩) m d), (13, .int .i64 (lastOf (xs.take k))), (14, .slice Al (na - k) (ca - k)), (15, .int .i64 n), (18, .slice A18 q c18), (19, .int .i64 i), (20, .int .i64 j)])
          (fun j w => Mem K2 w [[(g9, .cells (cells4 H) 33 (0, 0))]] ∧ j ≤ na) (fun j => na - j) 0 ⟨rfl, rfl, rfl, rfl, rfl, rfl, rfl, rfl, rfl, trivial⟩ ⟨hm, by omega⟩ ?_
        rintro j A3 w ⟨hm, hj⟩
        repeat (first | refine VC.seq ?_ | refine VC.block ?_ | refine VC.skip ?_)
        refine VC.region ?_
        refine VR.pure rfl rfl (p_moveI rfl) ?_
        refine VR.pure rfl rfl (p_moveL rfl) ?_
        refine VR.pure rfl rfl (p_len Try.underlying23 rfl) ?_
        refine VR.pure rfl rfl (p_lt rfl rfl) ?_
        refine VR.nil ?_
        repeat (first | refine VC.seq ?_ | refine VC.block ?_ | refine VC.skip ?_)
        refine VC.condD rfl (fun h5 => ?_) (fun h5 => ?_)
        · have hj' : j < na := by omega
          obtain ⟨b1, off1, blk1, T1, fr1, rfl, hb1, hc1⟩ := ((hra.le hu2.heap).le hu3.heap).get (by omega)
          repeat (first | refine VC.seq ?_ | refine VC.block ?_ | refine VC.skip ?_)
          refine VC.loud (Kept K2 [[(g9, .cells (cells4 H) 33 (0, 0))]]) [] rfl (by kernel_rfl) (Kept.here0 hm.drew) ?_
          replace hm := hm.drew
          refine VL.pure rfl rfl rfl (p_moveL rfl) ?_
          refine VL.pure rfl rfl rfl (p_moveI rfl) ?_
          refine VL.pure rfl rfl rfl (p_idx1 Try.underlying23 Try.sizeOf22 rfl rfl hj') ?_
          refine VL.read rfl rfl rfl (fun w' hw' => r_load Try.isAgg22 rfl (hw'.fix _ _ hb1) (int_at hc1 hra.len hj')) ?_
          refine VL.pure rfl rfl rfl (p_moveL rfl) ?_
          refine VL.pure rfl rfl rfl (p_moveI rfl) ?_
          refine VL.pure rfl rfl rfl (p_idx1 Try.underlying23 Try.sizeOf22 rfl rfl him') ?_
          refine VL.read rfl rfl rfl (fun w' hw' => r_load Try.isAgg22 rfl (hw'.fix _ _ hb2) (int_at hc2 hrb.len him')) ?_
          refine VL.pure rfl rfl rfl (p_eq rfl rfl) ?_
          refine VL.nil ?_
          repeat (first | refine VC.seq ?_ | refine VC.block ?_ | refine VC.skip ?_)
          refine VC.condF rfl (decide_eq_false (htr.2.2.2 i j hqi (by omega) (by omega))) ?_
          repeat (first | refine VC.seq ?_ | refine VC.block ?_ | refine VC.skip ?_)
          refine VC.region ?_
          refine VR.pure rfl rfl (p_moveI rfl) ?_
          refine VR.pure rfl rfl (p_add64 rfl rfl (by omega)) ?_
          refine VR.pure rfl rfl (p_assignI rfl) ?_
          refine VR.nil ?_
          exact ⟨j + 1, ⟨rfl, rfl, rfl, rfl, rfl, rfl, rfl, rfl, rfl, trivial⟩, ⟨hm, by omega⟩, by omega⟩
        · repeat (first | refine VC.seq ?_ | refine VC.block ?_ | refine VC.skip ?_)
          refine VC.exit ?_
          repeat (first | refine VC.seq ?_ | refine VC.block ?_ | refine VC.skip ?_)
          refine VC.region ?_
          refine VR.pure rfl rfl (p_moveI rfl) ?_
          refine VR.pure rfl rfl (p_add64 rfl rfl (by omega)) ?_
          refine VR.pure rfl rfl (p_assignI rfl) ?_
          refine VR.nil ?_
          exact ⟨i + 1, ⟨rfl, rfl, rfl, rfl, rfl, rfl, rfl, rfl, trivial⟩, ⟨hm, by omega, by omega⟩, by omega⟩
      · repeat (first | refine VC.seq ?_ | refine VC.block ?_ | refine VC.skip ?_)
        refine VC.exit ?_
        repeat (first | refine VC.seq ?_ | refine VC.block ?_ | refine VC.skip ?_)
        refine VC.region ?_
        refine VR.pure rfl rfl (p_moveL rfl) ?_
        refine VR.pure rfl rfl (p_assignL rfl) ?_
        refine VR.nil ?_
        repeat (first | refine VC.seq ?_ | refine VC.block ?_ | refine VC.skip ?_)
        refine VC.region ?_
        refine VR.pure rfl rfl (p_moveI rfl) ?_
        refine VR.pure rfl rfl (p_add64 rfl rfl (by omega)) ?_
        refine VR.pure rfl rfl (p_assignI rfl) ?_
        refine VR.nil ?_
        exact ⟨(n + 1, K2, A18, q, c18, upto z ys), ⟨rfl, rfl, rfl, rfl, rfl, rfl, trivial⟩, ⟨hu2.trans hu3, hm, hr18, hle.1, hle.2, hpc, by simp only; omega⟩, by simp only; omega⟩

end Go.Bd
namespace Go.Proofs.Ytdjehlabhfjmlaa
open Go.Bd Go.ChangeShapes Go.WideShapes

set_option maxRecDepth 100000 in
theorem meets_lifted (os : Os) (started : os.Started) (H : Type) (enc : TypeId × Value → H) :
    ReturnsInHanded {} Try.checked os 5 .any (Rows.differMeetsSpec.pre6 enc Try.prog Try.f5 Rows.differMeetsRow.domain false) (Rows.differMeetsSpec.post enc Try.prog Try.f5 false true false false) := by
  refine law_frame (C := Try.checked) (tb := 4) (by kernel_rfl) (by kernel_rfl) started (by kernel_rfl) Try.func5 rfl rfl Try.underlying4 (by kernel_rfl) ?_
    (ChangeSpec.witness6 (enc := enc) (C := Try.checked) false ⟨#[], #[.slice none 0 0, .int .i64 0, .int .i64 0, .int .i64 0], []⟩ 8 (by kernel_rfl) (by kernel_rfl) (by kernel_rfl) (by kernel_rfl)) ?_
  · intro ds hl
    match ds, hl with
    | [d1, d2, d3, d4], _ => rfl
  · intro W base args ds p hval hA hwt
    replace hA : DataW.TrodAll enc Try.prog W 0 (fun _ => true) true Try.f5.params.toList args.toList ds p := hA
    rw [Try.params5] at hA hval
    replace hwt : (DataW.weightsEach Try.prog [32, 3, 3, 3] ds).all (· ≤ reachBytes) = true := hwt
    obtain ⟨v0, vs0, d0, ds0, p0, q0, hargs, rfl, rfl, h0, r0⟩ := trodAll_cons hA
    obtain ⟨v1, vs1, d1, ds1, p1, q1, rfl, rfl, rfl, h1, r1⟩ := trodAll_cons r0
    obtain ⟨v2, vs2, d2, ds2, p2, q2, rfl, rfl, rfl, h2, r2⟩ := trodAll_cons r1
    obtain ⟨v3, vs3, d3, ds3, p3, q3, rfl, rfl, rfl, h3, r3⟩ := trodAll_cons r2
    obtain ⟨rfl, rfl, rfl⟩ := trodAll_nil r3
    obtain rfl : args = #[v0, v1, v2, v3] := by cases args; simp_all
    obtain ⟨A0, n0, c0, xs0, rfl, hn0, hc0, hr0, w0, hd0⟩ := arg_ints Try.underlying32 Try.underlying3 (by kernel_rfl) (hval 0 32 v0 rfl rfl) h0
    obtain ⟨a1, rfl, _, _, w1⟩ := open_int Try.underlying3 (hval 1 3 v1 rfl rfl) h1
    obtain ⟨a2, rfl, _, _, w2⟩ := open_int Try.underlying3 (hval 2 3 v2 rfl rfl) h2
    obtain ⟨a3, rfl, _, _, w3⟩ := open_int Try.underlying3 (hval 3 3 v3 rfl rfl) h3
    exact differ_meets_c (Mem.of W) ⟨hn0, hc0⟩ hr0

theorem meets : Rows.DifferMeetsSaid :=
  OpenClaim.holds_of_wide 5 Try.f5 rfl rfl rfl rfl rfl rfl rfl ⟨rfl, rfl, rfl, rfl, rfl⟩ rfl rfl rfl rfl rfl (by kernel_rfl) Try.func5 (by kernel_rfl)
    (of_decide_eq_true (by kernel_rfl)) (by unfold Func.isWrapper; rw [if_neg (of_decide_eq_false (by kernel_rfl))]; exact ⟨rfl, rfl⟩)
    (fun os started H enc _ => meets_lifted os started H enc)
end Go.Proofs.Ytdjehlabhfjmlaa
