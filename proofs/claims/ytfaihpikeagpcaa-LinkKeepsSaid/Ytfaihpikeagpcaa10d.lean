/- Contracts of layer 10: bytes and packets held against each other, what is picked. Conditions: as each states. -/
import Derived.Test.Ytfaihpikeagpcaa10c
namespace Go.Bd
open Go.Proofs
set_option linter.unusedVariables false
set_option linter.unusedSimpArgs false
set_option maxRecDepth 20000

theorem get_of {α : Type} {xs : List α} {k : Nat} (h : k < xs.length) : ∃ x, xs[k]? = some x ∧ x ∈ xs := ⟨xs[k], List.getElem?_eq_getElem h, List.getElem_mem h⟩
theorem same_at {α : Type} {xs ys : List α} {k : Nat} {x y : α} (hx : xs[k]? = some x) (hy : ys[k]? = some y) (h : xs.take k = ys.take k) (e : x = y) : xs.take (k + 1) = ys.take (k + 1) := by
  rw [List.take_add_one, List.take_add_one, h, hx, hy, e]
theorem byte_at {l : List Int} {i : Nat} {x : Int} (h : l[i]? = some x) : (bytes l)[i]? = some (.int .u8 x) := by
  unfold bytes
  rw [List.getElem?_map, h]
  rfl

theorem same_bytes_c {F : Env} {w : World} {Ls : List Blks} {A B : Option Addr} {n c m d : Nat} {xs ys : List Int} (hm : Mem F w Ls) (hn : n ≤ maxLen)
    (hr : BRow F.heap A n xs) (hs : BRow F.heap B m ys) :
    Calls Try.prog 19 #[.slice A n c, .slice B m d] w (Ret fun v w' => v = .bool (decide (xs = ys)) ∧ Mem F w' Ls) := by
  have hl := hr.len
  have hl2 := hs.len
  unfold maxLen at hn
  refine Calls.of_vc Try.func19 rfl Try.ntmps19 rfl ?_
  repeat (first | refine VC.seq ?_ | refine VC.block ?_ | refine VC.skip ?_)
  refine VC.region ?_
  refine VR.pure rfl rfl (p_assignB rfl) ?_
  refine VR.nil ?_
  repeat (first | refine VC.seq ?_ | refine VC.block ?_ | refine VC.skip ?_)
  refine VC.region ?_
  refine VR.pure rfl rfl (p_moveL rfl) ?_
  refine VR.pure rfl rfl (p_len Try.underlying22 rfl) ?_
  refine VR.pure rfl rfl (p_moveL rfl) ?_
  refine VR.pure rfl rfl (p_len Try.underlying22 rfl) ?_
  refine VR.pure rfl rfl (p_ne rfl rfl) ?_
  refine VR.nil ?_
  repeat (first | refine VC.seq ?_ | refine VC.block ?_ | refine VC.skip ?_)
  refine VC.condD rfl (fun h => ?_) (fun h => ?_)
  · repeat (first | refine VC.seq ?_ | refine VC.block ?_ | refine VC.skip ?_)
    refine VC.region ?_
    refine VR.pure rfl rfl (p_assignB rfl) ?_
    refine VR.nil ?_
    repeat (first | refine VC.seq ?_ | refine VC.block ?_ | refine VC.skip ?_)
    refine VC.ret ⟨_, ResOf.r1 (v := .bool _) rfl rfl, ?_⟩
    exact ⟨congrArg Value.bool (decide_eq_false (fun e => h (by rw [← hl, ← hl2, e]))).symm, hm⟩
  · have hnm : n = m := by omega
    subst hnm
    repeat (first | refine VC.seq ?_ | refine VC.block ?_ | refine VC.skip ?_)
    refine VC.region ?_
    refine VR.pure rfl rfl (p_assignI rfl) ?_
    refine VR.nil ?_
    repeat (first | refine VC.seq ?_ | refine VC.block ?_ | refine VC.skip ?_)
    refine VC.loop (σ := Nat) (fun k => [(0, .slice A n c), (1, .slice B n d), (5, .int .i64 k)]) (fun k w => Mem F w Ls ∧ k ≤ n ∧ xs.take k = ys.take k) (fun k => n - k) 0 ⟨rfl, rfl, rfl, trivial⟩ ⟨hm, by omega, by simp⟩ ?_
    rintro k A' w ⟨hm, hk, hno⟩
    repeat (first | refine VC.seq ?_ | refine VC.block ?_ | refine VC.skip ?_)
    refine VC.region ?_
    refine VR.pure rfl rfl (p_moveI rfl) ?_
    refine VR.pure rfl rfl (p_moveL rfl) ?_
    refine VR.pure rfl rfl (p_len Try.underlying22 rfl) ?_
    refine VR.pure rfl rfl (p_lt rfl rfl) ?_
    refine VR.nil ?_
    repeat (first | refine VC.seq ?_ | refine VC.block ?_ | refine VC.skip ?_)
    refine VC.condD rfl (fun h => ?_) (fun h => ?_)
    · have hk' : k < n := by omega
      obtain ⟨x, hx, _⟩ := get_of (xs := xs) (k := k) (by omega)
      obtain ⟨y, hy, _⟩ := get_of (xs := ys) (k := k) (by omega)
      obtain ⟨b, off, blk, T, fr, rfl, hb, hc⟩ := Row.get hr (by omega)
      obtain ⟨b2, off2, blk2, T2, fr2, rfl, hb2, hc2⟩ := Row.get hs (by omega)
      repeat (first | refine VC.seq ?_ | refine VC.block ?_ | refine VC.skip ?_)
      refine VC.loud (Kept F []) [] rfl (by kernel_rfl) (Kept.of0 hm.drew) ?_
      replace hm := hm.drew
      refine VL.pure rfl rfl rfl (p_moveL rfl) ?_
      refine VL.pure rfl rfl rfl (p_moveI rfl) ?_
      refine VL.pure rfl rfl rfl (p_idx1 Try.underlying22 Try.sizeOf5 rfl rfl hk') ?_
      refine VL.read rfl rfl rfl (fun w' hw' => r_load (v := .int _ _) Try.isAgg5 rfl (hw'.fix _ _ hb) ((hc k hk').trans (byte_at hx))) ?_
      refine VL.pure rfl rfl rfl (p_moveL rfl) ?_
      refine VL.pure rfl rfl rfl (p_moveI rfl) ?_
      refine VL.pure rfl rfl rfl (p_idx1 Try.underlying22 Try.sizeOf5 rfl rfl hk') ?_
      refine VL.read rfl rfl rfl (fun w' hw' => r_load (v := .int _ _) Try.isAgg5 rfl (hw'.fix _ _ hb2) ((hc2 k hk').trans (byte_at hy))) ?_
      refine VL.pure rfl rfl rfl (p_ne rfl rfl) ?_
      refine VL.nil ?_
      repeat (first | refine VC.seq ?_ | refine VC.block ?_ | refine VC.skip ?_)
      refine VC.condD rfl (fun h2 => ?_) (fun h2 => ?_)
      · repeat (first | refine VC.seq ?_ | refine VC.block ?_ | refine VC.skip ?_)
        refine VC.region ?_
        refine VR.pure rfl rfl (p_assignB rfl) ?_
        refine VR.nil ?_
        repeat (first | refine VC.seq ?_ | refine VC.block ?_ | refine VC.skip ?_)
        refine VC.ret ⟨_, ResOf.r1 (v := .bool _) rfl rfl, ?_⟩
        refine ⟨congrArg Value.bool (decide_eq_false (fun e => h2 ?_)).symm, hm⟩
        rw [e, hy] at hx
        exact (Option.some.inj hx).symm
      · repeat (first | refine VC.seq ?_ | refine VC.block ?_ | refine VC.skip ?_)
        refine VC.region ?_
        refine VR.pure rfl rfl (p_moveI rfl) ?_
        refine VR.pure rfl rfl (p_add64 rfl rfl (by omega)) ?_
        refine VR.pure rfl rfl (p_assignI rfl) ?_
        refine VR.nil ?_
        exact ⟨k + 1, ⟨rfl, rfl, rfl, trivial⟩, ⟨hm, by omega, same_at hx hy hno (Classical.not_not.1 h2)⟩, by omega⟩
    · repeat (first | refine VC.seq ?_ | refine VC.block ?_ | refine VC.skip ?_)
      refine VC.exit ?_
      repeat (first | refine VC.seq ?_ | refine VC.block ?_ | refine VC.skip ?_)
      refine VC.region ?_
      refine VR.pure rfl rfl (p_assignB rfl) ?_
      refine VR.nil ?_
      repeat (first | refine VC.seq ?_ | refine VC.block ?_ | refine VC.skip ?_)
      refine VC.ret ⟨_, ResOf.r1 (v := .bool _) rfl rfl, ?_⟩
      refine ⟨congrArg Value.bool (decide_eq_true ?_).symm, hm⟩
      rwa [List.take_of_length_le (by omega), List.take_of_length_le (by omega)] at hno

theorem same_packet_c {F : Env} {w : World} {Ls : List Blks} {A B : Option Addr} {n c m d : Nat} {p q : Pk} (hm : Mem F w Ls) (hn : n ≤ maxLen)
    (hr : BRow F.heap A n p.load) (hs : BRow F.heap B m q.load) :
    Calls Try.prog 13 #[.agg #[.int .i64 p.from_, .int .i64 p.to, .int .i64 p.seq, .int .i64 p.ack, .slice A n c], .agg #[.int .i64 q.from_, .int .i64 q.to, .int .i64 q.seq, .int .i64 q.ack, .slice B m d]] w (Ret fun v w' => v = .bool (decide (p = q)) ∧ Mem F w' Ls) := by
  obtain ⟨p1, p2, p3, p4, p5⟩ := p
  obtain ⟨q1, q2, q3, q4, q5⟩ := q
  dsimp only at hr hs ⊢
  refine Calls.of_vc Try.func13 rfl Try.ntmps13 rfl ?_
  repeat (first | refine VC.seq ?_ | refine VC.block ?_ | refine VC.skip ?_)
  refine VC.region ?_
  refine VR.new hm rfl rfl (n_boxG rfl) ?_
  intro b2 w hm
  refine VR.new hm rfl rfl (n_boxG rfl) ?_
  intro b3 w hm
  refine VR.pure rfl rfl (p_assignB rfl) ?_
  refine VR.nil ?_
  repeat (first | refine VC.seq ?_ | refine VC.block ?_ | refine VC.skip ?_)
  refine VC.region ?_
  refine VR.pure rfl rfl (p_field (fo := 0) Try.underlying24 rfl Try.sizeOf3 rfl rfl rfl) ?_
  refine VR.val rfl rfl (r_load (v := .int _ _) Try.isAgg3 rfl (hm.at_ 1 0 rfl) rfl) ?_
  refine VR.pure rfl rfl (p_field (fo := 0) Try.underlying24 rfl Try.sizeOf3 rfl rfl rfl) ?_
  refine VR.val rfl rfl (r_load (v := .int _ _) Try.isAgg3 rfl (hm.at_ 0 0 rfl) rfl) ?_
  refine VR.pure rfl rfl (p_eq rfl rfl) ?_
  refine VR.pure rfl rfl (p_moveB rfl) ?_
  refine VR.splitD 10 rfl (fun h => ?_) (fun h => ?_)
  refine VR.pureG rfl rfl (p_field (fo := 1) Try.underlying24 rfl Try.sizeOf3 rfl rfl rfl) ?_
  refine VR.valG rfl rfl (r_load (v := .int _ _) Try.isAgg3 rfl (hm.at_ 1 0 rfl) rfl) ?_
  refine VR.pureG rfl rfl (p_field (fo := 1) Try.underlying24 rfl Try.sizeOf3 rfl rfl rfl) ?_
  refine VR.valG rfl rfl (r_load (v := .int _ _) Try.isAgg3 rfl (hm.at_ 0 0 rfl) rfl) ?_
  refine VR.pureG rfl rfl (p_eq rfl rfl) ?_
  refine VR.pure rfl rfl (p_pickT rfl rfl) ?_
  refine VR.pure rfl rfl (p_moveB rfl) ?_
  refine VR.splitD 17 rfl (fun h' => ?_) (fun h' => ?_)
  refine VR.pureG rfl rfl (p_field (fo := 2) Try.underlying24 rfl Try.sizeOf3 rfl rfl rfl) ?_
  refine VR.valG rfl rfl (r_load (v := .int _ _) Try.isAgg3 rfl (hm.at_ 1 0 rfl) rfl) ?_
  refine VR.pureG rfl rfl (p_field (fo := 2) Try.underlying24 rfl Try.sizeOf3 rfl rfl rfl) ?_
  refine VR.valG rfl rfl (r_load (v := .int _ _) Try.isAgg3 rfl (hm.at_ 0 0 rfl) rfl) ?_
  refine VR.pureG rfl rfl (p_eq rfl rfl) ?_
  refine VR.pure rfl rfl (p_pickT rfl rfl) ?_
  refine VR.pure rfl rfl (p_moveB rfl) ?_
  refine VR.splitD 24 rfl (fun h'' => ?_) (fun h'' => ?_)
  refine VR.pureG rfl rfl (p_field (fo := 3) Try.underlying24 rfl Try.sizeOf3 rfl rfl rfl) ?_
  refine VR.valG rfl rfl (r_load (v := .int _ _) Try.isAgg3 rfl (hm.at_ 1 0 rfl) rfl) ?_
  refine VR.pureG rfl rfl (p_field (fo := 3) Try.underlying24 rfl Try.sizeOf3 rfl rfl rfl) ?_
  refine VR.valG rfl rfl (r_load (v := .int _ _) Try.isAgg3 rfl (hm.at_ 0 0 rfl) rfl) ?_
  refine VR.pureG rfl rfl (p_eq rfl rfl) ?_
  refine VR.pure rfl rfl (p_pickT rfl rfl) ?_
  refine VR.pure rfl rfl (p_moveB rfl) ?_
  refine VR.splitD 31 rfl (fun h3 => ?_) (fun h3 => ?_)
  refine VR.pureG rfl rfl (p_field (fo := 4) Try.underlying24 rfl Try.sizeOf22 rfl rfl rfl) ?_
  refine VR.valG rfl rfl (r_load (v := .slice _ _ _) Try.isAgg22 rfl (hm.at_ 1 0 rfl) rfl) ?_
  refine VR.pureG rfl rfl (p_field (fo := 4) Try.underlying24 rfl Try.sizeOf22 rfl rfl rfl) ?_
  refine VR.valG rfl rfl (r_load (v := .slice _ _ _) Try.isAgg22 rfl (hm.at_ 0 0 rfl) rfl) ?_
  refine VR.callG rfl rfl (r_call2 Try.call19 rfl rfl) (same_bytes_c hm hn hr hs) ?_
  rintro _ w ⟨rfl, hm⟩
  refine VR.pure rfl rfl (p_pickT rfl rfl) ?_
  refine VR.pure rfl rfl (p_assignB rfl) ?_
  refine VR.nil ?_
  rotate_left 1
  refine VR.pass rfl rfl ?_
  refine VR.pass rfl rfl ?_
  refine VR.pass rfl rfl ?_
  refine VR.pass rfl rfl ?_
  refine VR.pass rfl rfl ?_
  refine VR.pure rfl rfl (p_pickF rfl rfl) ?_
  refine VR.pure rfl rfl (p_assignB rfl) ?_
  refine VR.nil ?_
  rotate_left 1
  refine VR.pass rfl rfl ?_
  refine VR.pass rfl rfl ?_
  refine VR.pass rfl rfl ?_
  refine VR.pass rfl rfl ?_
  refine VR.pass rfl rfl ?_
  refine VR.pure rfl rfl (p_pickF rfl rfl) ?_
  refine VR.pure rfl rfl (p_moveB rfl) ?_
  refine VR.pass rfl rfl ?_
  refine VR.pass rfl rfl ?_
  refine VR.pass rfl rfl ?_
  refine VR.pass rfl rfl ?_
  refine VR.pass rfl rfl ?_
  refine VR.pure rfl rfl (p_pickF rfl rfl) ?_
  refine VR.pure rfl rfl (p_assignB rfl) ?_
  refine VR.nil ?_
  rotate_left 1
  refine VR.pass rfl rfl ?_
  refine VR.pass rfl rfl ?_
  refine VR.pass rfl rfl ?_
  refine VR.pass rfl rfl ?_
  refine VR.pass rfl rfl ?_
  refine VR.pure rfl rfl (p_pickF rfl rfl) ?_
  refine VR.pure rfl rfl (p_moveB rfl) ?_
  refine VR.pass rfl rfl ?_
  refine VR.pass rfl rfl ?_
  refine VR.pass rfl rfl ?_
  refine VR.pass rfl rfl ?_
  refine VR.pass rfl rfl ?_
  refine VR.pure rfl rfl (p_pickF rfl rfl) ?_
  refine VR.pure rfl rfl (p_moveB rfl) ?_
  refine VR.pass rfl rfl ?_
  refine VR.pass rfl rfl ?_
  refine VR.pass rfl rfl ?_
  refine VR.pass rfl rfl ?_
  refine VR.pass rfl rfl ?_
  refine VR.pure rfl rfl (p_pickF rfl rfl) ?_
  refine VR.pure rfl rfl (p_assignB rfl) ?_
  refine VR.nil ?_
  rotate_left 1
  refine VR.pass rfl rfl ?_
  refine VR.pass rfl rfl ?_
  refine VR.pass rfl rfl ?_
  refine VR.pass rfl rfl ?_
  refine VR.pass rfl rfl ?_
  refine VR.pure rfl rfl (p_pickF rfl rfl) ?_
  refine VR.pure rfl rfl (p_moveB rfl) ?_
  refine VR.pass rfl rfl ?_
  refine VR.pass rfl rfl ?_
  refine VR.pass rfl rfl ?_
  refine VR.pass rfl rfl ?_
  refine VR.pass rfl rfl ?_
  refine VR.pure rfl rfl (p_pickF rfl rfl) ?_
  refine VR.pure rfl rfl (p_moveB rfl) ?_
  refine VR.pass rfl rfl ?_
  refine VR.pass rfl rfl ?_
  refine VR.pass rfl rfl ?_
  refine VR.pass rfl rfl ?_
  refine VR.pass rfl rfl ?_
  refine VR.pure rfl rfl (p_pickF rfl rfl) ?_
  refine VR.pure rfl rfl (p_moveB rfl) ?_
  refine VR.pass rfl rfl ?_
  refine VR.pass rfl rfl ?_
  refine VR.pass rfl rfl ?_
  refine VR.pass rfl rfl ?_
  refine VR.pass rfl rfl ?_
  refine VR.pure rfl rfl (p_pickF rfl rfl) ?_
  refine VR.pure rfl rfl (p_assignB rfl) ?_
  refine VR.nil ?_
  rotate_left 1
  · repeat (first | refine VC.seq ?_ | refine VC.block ?_ | refine VC.skip ?_)
    refine VC.ret ⟨_, ResOf.r1 (v := .bool _) rfl rfl, ?_⟩
    refine ⟨congrArg Value.bool (decide_eq_decide.2 ?_), hm.pop.pop⟩
    rw [Pk.mk.injEq]
    exact ⟨fun e => ⟨h, h', h'', h3, e⟩, fun e => e.2.2.2.2⟩
  all_goals
    repeat (first | refine VC.seq ?_ | refine VC.block ?_ | refine VC.skip ?_)
    refine VC.ret ⟨_, ResOf.r1 (v := .bool _) rfl rfl, ?_⟩
    refine ⟨congrArg Value.bool (decide_eq_false ?_).symm, hm.pop.pop⟩
    rw [Pk.mk.injEq]
    rintro ⟨rfl, rfl, rfl, rfl, _⟩
    simp_all

theorem pick_c {w : World} {x n : Int} (h : 1 ≤ n ∧ n ≤ 1000000000000000) : Calls Try.prog 16 #[.int .i64 x, .int .i64 n] w (Ret fun v w' => (∃ i : Nat, (i : Int) < n ∧ v = .int .i64 i) ∧ w' = w) := by
  have h1 : x.tmod n < n ∧ -n < x.tmod n := ⟨Int.tmod_lt_of_pos x (by omega), by have := Int.tmod_lt_of_pos (-x) (b := n) (by omega); rw [Int.neg_tmod] at this; omega⟩
  refine Calls.of_vc Try.func16 rfl Try.ntmps16 rfl ?_
  repeat (first | refine VC.seq ?_ | refine VC.block ?_ | refine VC.skip ?_)
  refine VC.region ?_
  refine VR.pure rfl rfl (p_assignI rfl) ?_
  refine VR.nil ?_
  repeat (first | refine VC.seq ?_ | refine VC.block ?_ | refine VC.skip ?_)
  refine VC.region ?_
  refine VR.pure rfl rfl (p_moveI rfl) ?_
  refine VR.pure rfl rfl (p_lt rfl rfl) ?_
  refine VR.nil ?_
  repeat (first | refine VC.seq ?_ | refine VC.block ?_ | refine VC.skip ?_)
  refine VC.condD rfl (fun h2 => ?_) (fun h2 => ?_)
  · omega
  · repeat (first | refine VC.seq ?_ | refine VC.block ?_ | refine VC.skip ?_)
    refine VC.region ?_
    refine VR.pure rfl rfl (p_moveI rfl) ?_
    refine VR.pure rfl rfl (p_moveI rfl) ?_
    refine VR.pure rfl rfl (p_rem rfl rfl (by omega)) ?_
    refine VR.pure rfl rfl (p_assignI rfl) ?_
    refine VR.nil ?_
    repeat (first | refine VC.seq ?_ | refine VC.block ?_ | refine VC.skip ?_)
    refine VC.region ?_
    refine VR.pure rfl rfl (p_moveI rfl) ?_
    refine VR.pure rfl rfl (p_lt rfl rfl) ?_
    refine VR.nil ?_
    repeat (first | refine VC.seq ?_ | refine VC.block ?_ | refine VC.skip ?_)
    refine VC.condD rfl (fun h3 => ?_) (fun h3 => ?_)
    · repeat (first | refine VC.seq ?_ | refine VC.block ?_ | refine VC.skip ?_)
      refine VC.region ?_
      refine VR.pure rfl rfl (p_moveI rfl) ?_
      refine VR.pure rfl rfl (p_moveI rfl) ?_
      refine VR.pure rfl rfl (p_add64 rfl rfl (by omega)) ?_
      refine VR.pure rfl rfl (p_assignI rfl) ?_
      refine VR.nil ?_
      repeat (first | refine VC.seq ?_ | refine VC.block ?_ | refine VC.skip ?_)
      refine VC.region ?_
      refine VR.pure rfl rfl (p_moveI rfl) ?_
      refine VR.pure rfl rfl (p_assignI rfl) ?_
      refine VR.nil ?_
      repeat (first | refine VC.seq ?_ | refine VC.block ?_ | refine VC.skip ?_)
      refine VC.ret ⟨_, ResOf.r1 (v := .int _ _) rfl rfl, ?_⟩
      refine ⟨⟨(x.tmod n + n).toNat, by omega, ?_⟩, rfl⟩
      rw [Int.toNat_of_nonneg (by omega)]
    · repeat (first | refine VC.seq ?_ | refine VC.block ?_ | refine VC.skip ?_)
      refine VC.region ?_
      refine VR.pure rfl rfl (p_moveI rfl) ?_
      refine VR.pure rfl rfl (p_assignI rfl) ?_
      refine VR.nil ?_
      repeat (first | refine VC.seq ?_ | refine VC.block ?_ | refine VC.skip ?_)
      refine VC.ret ⟨_, ResOf.r1 (v := .int _ _) rfl rfl, ?_⟩
      refine ⟨⟨(x.tmod n).toNat, by omega, ?_⟩, rfl⟩
      rw [Int.toNat_of_nonneg (by omega)]


def lk0 (inc : Int) : Lk := ⟨inc, 0, 0, 0, []⟩
theorem LkAt.new (H : Nat → Option Obj) (inc : Int) : LkAt H (lk0 inc) #[.int .i64 inc, .int .i64 0, .int .i64 0, .int .i64 0, .slice none 0 0] [] :=
  ⟨none, 0, 0, [], rfl, OwnO.nil _ _, rfl, fun b hb => by simp at hb⟩
theorem BRow.own {H : Nat → Option Obj} {A : Option Addr} {n c : Nat} {l : List Int} {L : Blks} (h : OwnS 5 1 A n c (bytes l) L) (hH : ∀ p ∈ L, H p.1 = some p.2) : BRow H A n l := h.row1 hH

/-- Two links beside one another: the second to the front. -/
theorem Mem.other {F : Env} {w : World} {A L B M : Blks} {Ls : List Blks} (h : Mem F w (A :: L :: B :: M :: Ls)) : Mem F w (B :: M :: A :: L :: Ls) := h.permF (by
  simp only [List.flatten_cons]
  have e1 : ∀ (a l b m f : Blks), (a ++ (l ++ (b ++ (m ++ f)))).Perm (b ++ (m ++ (a ++ (l ++ f)))) := fun a l b m f => by
    have := (List.perm_append_comm (l₁ := a ++ l) (l₂ := b ++ m)).append_right f
    simpa only [List.append_assoc] using this
  exact e1 _ _ _ _ _)

theorem new_ok {F : Env} {w : World} {Ls : List Blks} {inc : Int} (hm : Mem F w Ls) (h : 1 ≤ inc ∧ inc ≤ 1099511627776) :
    Calls Try.prog 15 #[.int .i64 inc] w (Ret fun v w' => ∃ g, v = .pointer (some ⟨g, 0, none⟩) ∧ Mem F w' ([(g, .cells #[.int .i64 inc, .int .i64 0, .int .i64 0, .int .i64 0, .slice none 0 0] 33 (0, 0))] :: [] :: Ls)) :=
  Ret.mono (new_c hm) fun v w' hv => by
    rcases hv with ⟨_, _, g, h1, h2⟩ | ⟨h1, _⟩
    · exact ⟨g, h1, h2.nil_.swap⟩
    · exact absurd h h1
theorem new_no {F : Env} {w : World} {Ls : List Blks} {inc : Int} (hm : Mem F w Ls) (h : ¬ (1 ≤ inc ∧ inc ≤ 1099511627776)) :
    Calls Try.prog 15 #[.int .i64 inc] w (Ret fun v w' => v = .pointer none ∧ Mem F w' Ls) :=
  Ret.mono (new_c hm) fun v w' hv => by
    rcases hv with ⟨h1, h2, _⟩ | ⟨_, h1, h2⟩
    · exact absurd ⟨h1, h2⟩ h
    · exact ⟨h1, h2⟩

def ka0 : Lk := ⟨5, 0, 0, 0, [[7]]⟩
def ka1 : Lk := ⟨5, 9, 0, 0, [[7]]⟩
def ka2 : Lk := ⟨5, 9, 1, 0, []⟩
def kb0 : Lk := ⟨9, 0, 0, 0, []⟩
def kb1 : Lk := ⟨9, 5, 0, 0, []⟩
def kb2 : Lk := ⟨9, 5, 0, 1, []⟩
def pk0 : Pk := ⟨5, 0, 0, 0, []⟩
def pk1 : Pk := ⟨9, 5, 0, 0, []⟩
def pk2 : Pk := ⟨5, 9, 1, 0, [7]⟩
def non7 : Option (List Int) := none
def some7 : Option (List Int) := some [7]
def pk3 : Pk := ⟨9, 5, 0, 1, []⟩

set_option maxHeartbeats 4000000 in
theorem awake_c {F : Env} {w : World} {Ls : List Blks} (hm : Mem F w Ls) : Calls Try.prog 8 #[] w (Ret fun v w' => v = .bool true ∧ Mem F w' Ls) := by
  refine Calls.of_vc Try.func8 rfl Try.ntmps8 rfl ?_
  repeat (first | refine VC.seq ?_ | refine VC.block ?_ | refine VC.skip ?_)
  refine VC.region ?_
  refine VR.pure rfl rfl (p_assignB rfl) ?_
  refine VR.nil ?_
  repeat (first | refine VC.seq ?_ | refine VC.block ?_ | refine VC.skip ?_)
  refine VC.region ?_
  refine VR.call rfl rfl (r_call1 Try.call15 rfl) (new_ok hm (by decide)) ?_
  rintro _ w ⟨g1, rfl, hm⟩
  refine VR.call rfl rfl (r_call1 Try.call15 rfl) (new_ok hm (by decide)) ?_
  rintro _ w ⟨g2, rfl, hm⟩
  refine VR.pure rfl rfl (p_assignP rfl) ?_
  refine VR.pure rfl rfl (p_assignP rfl) ?_
  refine VR.nil ?_
  have es : (lk0 5).send [7] = (0, ka0) := by simp [Lk.send, Lk.there, lk0, ka0]
  repeat (first | refine VC.seq ?_ | refine VC.block ?_ | refine VC.skip ?_)
  refine VC.region ?_
  refine VR.pure rfl rfl (p_moveP rfl) ?_
  refine VR.pure rfl rfl (p_eqNilP Try.underlying26 rfl) ?_
  refine VR.pure rfl rfl (p_moveB rfl) ?_
  refine VR.knownF 10 rfl rfl ?_
  refine VR.pureG rfl rfl (p_moveP rfl) ?_
  refine VR.pureG rfl rfl (p_eqNilP Try.underlying26 rfl) ?_
  refine VR.pure rfl rfl (p_pickF rfl rfl) ?_
  refine VR.pure rfl rfl (p_moveB rfl) ?_
  refine VR.knownF 14 rfl rfl ?_
  refine VR.pureG rfl rfl (p_moveP rfl) ?_
  refine VR.newG hm rfl rfl (n_buildSlice1 (vs := [.int _ _]) Try.underlying22 inf5 rfl rfl rfl rfl rfl rfl rfl) ?_
  intro b8 w hm
  obtain ⟨G, hu, hm, hG⟩ := (hm.permF (Ls' := [(b8, .cells #[.int .u8 7] 5 (0, 0))] :: [(g1, .cells #[.int .i64 5, .int .i64 0, .int .i64 0, .int .i64 0, .slice none 0 0] 33 (0, 0))] :: [] :: [(g2, .cells #[.int .i64 9, .int .i64 0, .int .i64 0, .int .i64 0, .slice none 0 0] 33 (0, 0))] :: [] :: Ls) (by simp only [List.flatten_cons, List.nil_append, List.cons_append]; exact ((List.Perm.swap _ _ _).cons _))).freeze
  have hcon := send_c hm (LkAt.new _ 5) (l := [7]) (d := 1) (Row.lit (cs := [.int .u8 7]) (hG _ (.head _)))
  rw [es] at hcon
  refine VR.callG rfl rfl (r_call2 Try.call10 rfl rfl) (hcon) ?_
  rintro _ w ⟨G2, cs1, L1, rfl, hu2, hkx, hm⟩
  refine VR.pureG rfl rfl (p_ne rfl rfl) ?_
  refine VR.pure rfl rfl (p_pickF rfl rfl) ?_
  refine VR.nil ?_
  replace hu := hu.trans hu2
  dsimp only at hkx
  have hky : LkAt G2.heap kb0 #[.int .i64 9, .int .i64 0, .int .i64 0, .int .i64 0, .slice none 0 0] [] := LkAt.new _ 9
  repeat (first | refine VC.seq ?_ | refine VC.block ?_ | refine VC.skip ?_)
  refine VC.condF rfl rfl ?_
  have eo : Lk.out ka0 = pk0 := by simp [Lk.out, Lk.there, ka0, pk0]
  have et : Lk.take kb0 pk0 = (non7, false, kb1) := by simp [Lk.take, Lk.meet, Lk.done, Lk.there, kb0, kb1, pk0, non7]
  have hcon := out_c hm hkx (by unfold Lk.ok ka0; decide)
  rw [eo] at hcon
  repeat (first | refine VC.seq ?_ | refine VC.block ?_ | refine VC.skip ?_)
  refine VC.region ?_
  refine VR.pure rfl rfl (p_moveP rfl) ?_
  refine VR.pure rfl rfl (p_moveP rfl) ?_
  refine VR.call rfl rfl (r_call1 Try.call14 rfl) (hcon) ?_
  rintro _ w ⟨A3, c3, L3, rfl, ho3, hm⟩
  obtain ⟨G3, hu3, hm, hG3⟩ := hm.freeze
  replace hm := hm.other
  replace hkx := hkx.mono hu3.heap
  replace hky := hky.mono hu3.heap
  replace hu := hu.trans hu3
  have hcon2 := take_c hm hky (by unfold Lk.ok kb0; decide) (BRow.own ho3 hG3) (by unfold pk0; decide) (d := c3)
  rw [et] at hcon2
  dsimp only [non7, Option.getD, Option.isSome, List.length] at hcon2
  refine VR.call rfl rfl (r_call2 Try.call9 rfl rfl) (hcon2) ?_
  rintro _ w ⟨cs4, L4, A4, c4, M4, rfl, hkz, ho4, hm⟩
  obtain ⟨G4, hu4, hm, hG4⟩ := hm.freeze
  replace hkx := hkx.mono hu4.heap
  replace hkz := hkz.mono hu4.heap
  replace hu := hu.trans hu4
  refine VR.nil ?_
  clear hky eo et hcon hcon2
  have hky := hkx
  clear hkx
  have hkx := hkz
  clear hkz
  have eo : Lk.out kb1 = pk1 := by simp [Lk.out, Lk.there, kb1, pk1]
  have et : Lk.take ka0 pk1 = (non7, false, ka1) := by simp [Lk.take, Lk.meet, Lk.done, Lk.there, ka0, ka1, pk1, non7]
  have hcon := out_c hm hkx (by unfold Lk.ok kb1; decide)
  rw [eo] at hcon
  repeat (first | refine VC.seq ?_ | refine VC.block ?_ | refine VC.skip ?_)
  refine VC.region ?_
  refine VR.pure rfl rfl (p_moveP rfl) ?_
  refine VR.pure rfl rfl (p_moveP rfl) ?_
  refine VR.call rfl rfl (r_call1 Try.call14 rfl) (hcon) ?_
  rintro _ w ⟨A3, c3, L3, rfl, ho3, hm⟩
  obtain ⟨G3, hu3, hm, hG3⟩ := hm.freeze
  replace hm := hm.other
  replace hkx := hkx.mono hu3.heap
  replace hky := hky.mono hu3.heap
  replace hu := hu.trans hu3
  have hcon2 := take_c hm hky (by unfold Lk.ok ka0; decide) (BRow.own ho3 hG3) (by unfold pk1; decide) (d := c3)
  rw [et] at hcon2
  dsimp only [non7, Option.getD, Option.isSome, List.length] at hcon2
  refine VR.call rfl rfl (r_call2 Try.call9 rfl rfl) (hcon2) ?_
  rintro _ w ⟨cs4, L4, A4, c4, M4, rfl, hkz, ho4, hm⟩
  obtain ⟨G4, hu4, hm, hG4⟩ := hm.freeze
  replace hkx := hkx.mono hu4.heap
  replace hkz := hkz.mono hu4.heap
  replace hu := hu.trans hu4
  refine VR.nil ?_
  clear hky eo et hcon hcon2
  have hky := hkx
  clear hkx
  have hkx := hkz
  clear hkz
  have eo : Lk.out ka1 = pk2 := by simp [Lk.out, Lk.there, ka1, pk2]
  have et : Lk.take kb1 pk2 = (some7, false, kb2) := by simp [Lk.take, Lk.meet, Lk.done, Lk.there, kb1, kb2, pk2, some7]
  have hcon := out_c hm hkx (by unfold Lk.ok ka1; decide)
  rw [eo] at hcon
  repeat (first | refine VC.seq ?_ | refine VC.block ?_ | refine VC.skip ?_)
  refine VC.region ?_
  refine VR.pure rfl rfl (p_moveP rfl) ?_
  refine VR.pure rfl rfl (p_moveP rfl) ?_
  refine VR.call rfl rfl (r_call1 Try.call14 rfl) (hcon) ?_
  rintro _ w ⟨A3, c3, L3, rfl, ho3, hm⟩
  obtain ⟨G3, hu3, hm, hG3⟩ := hm.freeze
  replace hm := hm.other
  replace hkx := hkx.mono hu3.heap
  replace hky := hky.mono hu3.heap
  replace hu := hu.trans hu3
  have hcon2 := take_c hm hky (by unfold Lk.ok kb1; decide) (BRow.own ho3 hG3) (by unfold pk2; decide) (d := c3)
  rw [et] at hcon2
  dsimp only [some7, Option.getD, Option.isSome, List.length] at hcon2
  refine VR.call rfl rfl (r_call2 Try.call9 rfl rfl) (hcon2) ?_
  rintro _ w ⟨cs4, L4, A4, c4, M4, rfl, hkz, ho4, hm⟩
  obtain ⟨G4, hu4, hm, hG4⟩ := hm.freeze
  replace hkx := hkx.mono hu4.heap
  replace hkz := hkz.mono hu4.heap
  replace hu := hu.trans hu4
  refine VR.pure rfl rfl (p_moveT rfl) ?_
  refine VR.pure rfl rfl (p_extract rfl rfl) ?_
  refine VR.pure rfl rfl (p_extract rfl rfl) ?_
  refine VR.pure rfl rfl (p_extract rfl rfl) ?_
  refine VR.pure rfl rfl (p_assignL rfl) ?_
  refine VR.pure rfl rfl (p_assignB rfl) ?_
  refine VR.pure rfl rfl (p_assignB rfl) ?_
  refine VR.nil ?_
  clear hky eo et hcon hcon2
  have hky := hkx
  clear hkx
  have hkx := hkz
  clear hkz
  have hA6 := BRow.own (l := [7]) ho4 hG4
  replace hG4 := hm
  have eo : Lk.out kb2 = pk3 := by simp [Lk.out, Lk.there, kb2, pk3]
  have et : Lk.take ka1 pk3 = (non7, false, ka2) := by simp [Lk.take, Lk.meet, Lk.done, Lk.there, ka1, ka2, pk3, non7]
  have hcon := out_c hm hkx (by unfold Lk.ok kb2; decide)
  rw [eo] at hcon
  repeat (first | refine VC.seq ?_ | refine VC.block ?_ | refine VC.skip ?_)
  refine VC.region ?_
  refine VR.pure rfl rfl (p_moveP rfl) ?_
  refine VR.pure rfl rfl (p_moveP rfl) ?_
  refine VR.call rfl rfl (r_call1 Try.call14 rfl) (hcon) ?_
  rintro _ w ⟨A3, c3, L3, rfl, ho3, hm⟩
  obtain ⟨G3, hu3, hm, hG3⟩ := hm.freeze
  replace hm := hm.other
  replace hkx := hkx.mono hu3.heap
  replace hky := hky.mono hu3.heap
  replace hu := hu.trans hu3
  have hcon2 := take_c hm hky (by unfold Lk.ok ka1; decide) (BRow.own ho3 hG3) (by unfold pk3; decide) (d := c3)
  rw [et] at hcon2
  dsimp only [non7, Option.getD, Option.isSome, List.length] at hcon2
  refine VR.call rfl rfl (r_call2 Try.call9 rfl rfl) (hcon2) ?_
  rintro _ w ⟨cs4, L4, A4, c4, M4, rfl, hkz, ho4, hm⟩
  obtain ⟨G4, hu4, hm, hG4⟩ := hm.freeze
  replace hkx := hkx.mono hu4.heap
  replace hkz := hkz.mono hu4.heap
  replace hu := hu.trans hu4
  refine VR.nil ?_
  clear hky eo et hcon hcon2
  have hky := hkx
  clear hkx
  have hkx := hkz
  clear hkz
  replace hA6 := hA6.mono (hu3.trans hu4).heap
  obtain ⟨b, off, blk, T, fr, rfl, hb, hc⟩ := Row.get hA6 (by decide)
  have hc0 := hc 0 (by decide)
  have ew : (if Lk.there ka2 then ka2.wait.length else 0 : Int) = 0 := by simp [Lk.there, ka2]
  have ek : Lk.there ka2 ∧ 0 < ka2.peer := by simp [Lk.there, ka2]
  have hw := waiting_c hm hkx
  rw [ew] at hw
  repeat (first | refine VC.seq ?_ | refine VC.block ?_ | refine VC.skip ?_)
  refine VC.region ?_
  refine VR.pure rfl rfl (p_moveB rfl) ?_
  refine VR.pure rfl rfl (p_moveB rfl) ?_
  refine VR.knownT 41 rfl rfl ?_
  refine VR.pureG rfl rfl (p_moveB rfl) ?_
  refine VR.pureG rfl rfl (p_not rfl) ?_
  refine VR.pure rfl rfl (p_pickT rfl rfl) ?_
  refine VR.pure rfl rfl (p_moveB rfl) ?_
  refine VR.knownT 45 rfl rfl ?_
  refine VR.pureG rfl rfl (p_moveL rfl) ?_
  refine VR.pureG rfl rfl (p_len Try.underlying22 rfl) ?_
  refine VR.pureG rfl rfl (p_eq rfl rfl) ?_
  refine VR.pure rfl rfl (p_pickT rfl rfl) ?_
  refine VR.pure rfl rfl (p_moveB rfl) ?_
  refine VR.knownT 50 rfl rfl ?_
  refine VR.pureG rfl rfl (p_moveL rfl) ?_
  refine VR.pureG rfl rfl (p_idx1 (j := 0) Try.underlying22 Try.sizeOf5 rfl rfl (by decide)) ?_
  refine VR.valG rfl rfl (r_load (v := .int _ _) Try.isAgg5 rfl (hm.fix _ _ hb) hc0) ?_
  refine VR.pureG rfl rfl (p_eq rfl rfl) ?_
  refine VR.pure rfl rfl (p_pickT rfl rfl) ?_
  refine VR.pure rfl rfl (p_moveB rfl) ?_
  refine VR.knownT 56 rfl rfl ?_
  refine VR.pureG rfl rfl (p_moveP rfl) ?_
  refine VR.callG rfl rfl (r_call1 Try.call12 rfl) (hw) ?_
  rintro _ w ⟨rfl, rfl⟩
  refine VR.pureG rfl rfl (p_eq rfl rfl) ?_
  refine VR.pure rfl rfl (p_pickT rfl rfl) ?_
  refine VR.pure rfl rfl (p_moveB rfl) ?_
  refine VR.knownT 61 rfl rfl ?_
  refine VR.pureG rfl rfl (p_moveP rfl) ?_
  refine VR.callG rfl rfl (r_call1 Try.call11 rfl) (known_c hm hkx) ?_
  rintro _ w ⟨rfl, rfl⟩
  refine VR.pure rfl rfl (p_pickT rfl rfl) ?_
  refine VR.pure rfl rfl (p_assignB rfl) ?_
  refine VR.nil ?_
  repeat (first | refine VC.seq ?_ | refine VC.block ?_ | refine VC.skip ?_)
  refine VC.ret ⟨_, ResOf.r1 (v := .bool _) rfl rfl, ?_⟩
  exact ⟨congrArg Value.bool (decide_eq_true ek), (hm.pop.pop.pop.pop).shrink hu⟩
end Go.Bd
