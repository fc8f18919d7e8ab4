/- Contracts of layer 23: zxids; what is committed, of one config and one zxid at most. Conditions: as each states. -/
import Derived.Test.Ytjnplhmhkindpaa23v
namespace Go.Bd
open Go.Proofs
set_option linter.unusedVariables false
set_option maxRecDepth 20000

section
variable {P : Program} {f : Fr} {dst : Option Tmp} {ty : TypeId} {pos : String} {after : Array Edge} {g : Option (Nat × Bool)}
theorem Kept.mem' {F : Env} {w : World} {Ls : List Blks} {L : Blks} (h : Mem F w Ls) (hL : L ∈ Ls) : Kept F [L] w := by
  obtain ⟨i, hi, e⟩ := List.mem_iff_getElem.1 hL
  exact Kept.one h i (by rw [List.getElem?_eq_getElem hi, e])
theorem Kept.of1 {F : Env} {w : World} {Ls : List Blks} {L : Blks} (h : Mem F w (L :: Ls)) : Kept F [L] w := Kept.mem' h (.head _)
theorem Kept.of2 {F : Env} {w : World} {Ls : List Blks} {K L : Blks} (h : Mem F w (K :: L :: Ls)) : Kept F [L] w := Kept.mem' h (.tail _ (.head _))
theorem Kept.in2 {F : Env} {w : World} {Ls Ms : List Blks} {L : Blks} (h : Mem F w Ms) (e : Ms = L :: Ls ∨ ∃ K, Ms = K :: L :: Ls := by first
  | exact .inl rfl
  | exact .inr ⟨_, rfl⟩) : Kept F [L] w := by
  rcases e with rfl | ⟨K, rfl⟩
  · exact Kept.of1 h
  · exact Kept.of2 h
theorem p_and64E {tx t' : TypeId} {x y : Operand} {a b r : Int} (hx : f.ev x = .int .i64 a) (hy : f.ev y = .int .i64 b) (hr : IntKind.i64.wrap ((BitVec.ofInt 64 a &&& BitVec.ofInt 64 b).toNat : Int) = r) :
    Pure P f ⟨dst, .binOp .and tx x y t', ty, pos, after, g⟩ (.int .i64 r) := by
  subst hr
  exact p_bin hx hy fun w => by
    have h0 : (binOp .and tx (.int .i64 a) (.int .i64 b)).run P w = (Op.intBits .and .i64 a b).run P w := by simp [binOp]
    rw [h0]
    rfl
theorem p_or64E {tx t' : TypeId} {x y : Operand} {a b r : Int} (hx : f.ev x = .int .i64 a) (hy : f.ev y = .int .i64 b) (hr : IntKind.i64.wrap ((BitVec.ofInt 64 a ||| BitVec.ofInt 64 b).toNat : Int) = r) :
    Pure P f ⟨dst, .binOp .or tx x y t', ty, pos, after, g⟩ (.int .i64 r) := by
  subst hr
  exact p_bin hx hy fun w => by
    have h0 : (binOp .or tx (.int .i64 a) (.int .i64 b)).run P w = (Op.intBits .or .i64 a b).run P w := by simp [binOp]
    rw [h0]
    rfl
end
theorem bv_nat {a : Int} (h : 0 ≤ a ∧ a < 18446744073709551616) : (BitVec.ofInt 64 a).toNat = a.toNat := by
  rw [BitVec.toNat_ofInt]
  omega
theorem or_val {ep k : Int} (he : 0 ≤ ep ∧ ep ≤ 1073741824) (hk : 0 ≤ k ∧ k < 4294967296) : IntKind.i64.wrap ((BitVec.ofInt 64 (ep * 4294967296) ||| BitVec.ofInt 64 k).toNat : Int) = ep * 4294967296 + k := by
  rw [BitVec.toNat_or, bv_nat (by omega), bv_nat (by omega)]
  have h1 : (ep * 4294967296).toNat = 2 ^ 32 * ep.toNat := by omega
  rw [h1, ← Nat.two_pow_add_eq_or_of_lt (by omega : k.toNat < 2 ^ 32)]
  have h2 : ((2 ^ 32 * ep.toNat + k.toNat : Nat) : Int) = ep * 4294967296 + k := by omega
  rw [h2]
  exact IntWalk.i64_in _ ⟨by omega, by omega⟩
theorem and_val {z : Int} (hz : 0 ≤ z ∧ z < 9223372036854775808) : IntKind.i64.wrap ((BitVec.ofInt 64 z &&& BitVec.ofInt 64 4294967295).toNat : Int) = z % 4294967296 := by
  rw [BitVec.toNat_and, bv_nat (by omega), bv_nat (by omega)]
  have h1 : (4294967295 : Int).toNat = 2 ^ 32 - 1 := by decide
  rw [h1, Nat.and_two_pow_sub_one_eq_mod]
  have h2 : ((z.toNat % 2 ^ 32 : Nat) : Int) = z % 4294967296 := by omega
  rw [h2]
  exact IntWalk.i64_in _ ⟨by omega, by omega⟩
def mayZ (z : Int) : Prop := 0 ≤ z ∧ z.fdiv 4294967296 ≤ 1073741824
instance (z : Int) : Decidable (mayZ z) := by unfold mayZ; infer_instance
def epochZ (z : Int) : Int := if mayZ z then z.fdiv 4294967296 else 0
theorem fdiv_nn {z : Int} (h : 0 ≤ z) : z.fdiv 4294967296 = z / 4294967296 := Int.fdiv_eq_ediv_of_nonneg _ (by omega)
theorem epoch_of {ep k : Int} (he : 0 ≤ ep ∧ ep ≤ 1073741823) (hk : 0 ≤ k ∧ k < 4294967296) : epochZ (ep * 4294967296 + k) = ep := by
  have h := fdiv_nn (z := ep * 4294967296 + k) (by omega)
  unfold epochZ
  rw [if_pos ⟨by omega, by omega⟩, h]
  omega

section
variable {F : Env} {w : World} {Ls : List Blks}
theorem may_c {z : Int} : Calls Try.prog 35 #[.int .i64 z] w (Ret fun v w' => v = .bool (decide (mayZ z)) ∧ w' = w) := by
  refine Calls.of_vc Try.func35 rfl Try.ntmps35 rfl ?_
  repeat (first | refine VC.seq ?_ | refine VC.block ?_ | refine VC.skip ?_)
  refine VC.region ?_
  refine VR.pure rfl rfl (p_assignB rfl) ?_
  refine VR.nil ?_
  repeat (first | refine VC.seq ?_ | refine VC.block ?_ | refine VC.skip ?_)
  refine VC.region ?_
  refine VR.pure rfl rfl (p_moveI rfl) ?_
  refine VR.pure rfl rfl (p_ge rfl rfl) ?_
  refine VR.pure rfl rfl (p_moveB rfl) ?_
  refine VR.splitD 5 rfl (fun q2 => ?_) (fun q2 => ?_)
  refine VR.pureG rfl rfl (p_moveI rfl) ?_
  refine VR.pureG rfl rfl (p_shr rfl rfl (by decide)) ?_
  refine VR.pureG rfl rfl (p_le rfl rfl) ?_
  refine VR.pure rfl rfl (p_pickT rfl rfl) ?_
  refine VR.pure rfl rfl (p_assignB rfl) ?_
  refine VR.nil ?_
  rotate_left 1
  refine VR.pass rfl rfl ?_
  refine VR.pass rfl rfl ?_
  refine VR.pass rfl rfl ?_
  refine VR.pure rfl rfl (p_pickF rfl rfl) ?_
  refine VR.pure rfl rfl (p_assignB rfl) ?_
  refine VR.nil ?_
  rotate_left 1
  · repeat (first | refine VC.seq ?_ | refine VC.block ?_ | refine VC.skip ?_)
    refine VC.ret ⟨_, ResOf.r1 (v := .bool _) rfl rfl, ?_⟩
    exact ⟨congrArg Value.bool (decide_eq_decide.2 ⟨fun h => ⟨q2, h⟩, fun h => h.2⟩), rfl⟩
  · repeat (first | refine VC.seq ?_ | refine VC.block ?_ | refine VC.skip ?_)
    refine VC.ret ⟨_, ResOf.r1 (v := .bool _) rfl rfl, ?_⟩
    exact ⟨congrArg Value.bool (decide_eq_false fun h => q2 h.1).symm, rfl⟩
theorem epoch_c {z : Int} : Calls Try.prog 23 #[.int .i64 z] w (Ret fun v w' => v = .int .i64 (epochZ z) ∧ w' = w) := by
  refine Calls.of_vc Try.func23 rfl Try.ntmps23 rfl ?_
  repeat (first | refine VC.seq ?_ | refine VC.block ?_ | refine VC.skip ?_)
  refine VC.region ?_
  refine VR.pure rfl rfl (p_assignI rfl) ?_
  refine VR.nil ?_
  repeat (first | refine VC.seq ?_ | refine VC.block ?_ | refine VC.skip ?_)
  refine VC.region ?_
  refine VR.pure rfl rfl (p_moveI rfl) ?_
  refine VR.call rfl rfl (r_call1 Try.call35 rfl) (may_c) ?_
  rintro _ _ ⟨rfl, rfl⟩
  refine VR.pure rfl rfl (p_notD rfl) ?_
  refine VR.nil ?_
  repeat (first | refine VC.seq ?_ | refine VC.block ?_ | refine VC.skip ?_)
  refine VC.condD rfl (fun h => ?_) (fun h => ?_)
  · repeat (first | refine VC.seq ?_ | refine VC.block ?_ | refine VC.skip ?_)
    refine VC.region ?_
    refine VR.pure rfl rfl (p_assignI rfl) ?_
    refine VR.nil ?_
    repeat (first | refine VC.seq ?_ | refine VC.block ?_ | refine VC.skip ?_)
    refine VC.ret ⟨_, ResOf.r1 (v := .int _ _) rfl rfl, ?_⟩
    unfold epochZ
    rw [if_neg h]
    exact ⟨rfl, rfl⟩
  · repeat (first | refine VC.seq ?_ | refine VC.block ?_ | refine VC.skip ?_)
    refine VC.region ?_
    refine VR.pure rfl rfl (p_moveI rfl) ?_
    refine VR.pure rfl rfl (p_shr rfl rfl (by decide)) ?_
    refine VR.pure rfl rfl (p_assignI rfl) ?_
    refine VR.nil ?_
    repeat (first | refine VC.seq ?_ | refine VC.block ?_ | refine VC.skip ?_)
    refine VC.ret ⟨_, ResOf.r1 (v := .int _ _) rfl rfl, ?_⟩
    unfold epochZ
    rw [if_pos (Classical.not_not.1 h)]
    exact ⟨rfl, rfl⟩
theorem counter_c {z : Int} (hz : 0 ≤ z ∧ z < 4611686018427387904) : Calls Try.prog 34 #[.int .i64 z] w (Ret fun v w' => v = .int .i64 (z % 4294967296) ∧ w' = w) := by
  have h1 : mayZ z := ⟨hz.1, by rw [fdiv_nn hz.1]; omega⟩
  refine Calls.of_vc Try.func34 rfl Try.ntmps34 rfl ?_
  repeat (first | refine VC.seq ?_ | refine VC.block ?_ | refine VC.skip ?_)
  refine VC.region ?_
  refine VR.pure rfl rfl (p_assignI rfl) ?_
  refine VR.nil ?_
  repeat (first | refine VC.seq ?_ | refine VC.block ?_ | refine VC.skip ?_)
  refine VC.region ?_
  refine VR.pure rfl rfl (p_moveI rfl) ?_
  refine VR.call rfl rfl (r_call1 Try.call35 rfl) (may_c) ?_
  rintro _ _ ⟨rfl, rfl⟩
  refine VR.pure rfl rfl (p_notD rfl) ?_
  refine VR.nil ?_
  repeat (first | refine VC.seq ?_ | refine VC.block ?_ | refine VC.skip ?_)
  refine VC.condD rfl (fun h => ?_) (fun h => ?_)
  · exact absurd h1 h
  · repeat (first | refine VC.seq ?_ | refine VC.block ?_ | refine VC.skip ?_)
    refine VC.region ?_
    refine VR.pure rfl rfl (p_moveI rfl) ?_
    refine VR.pure rfl rfl (p_and64E rfl rfl (and_val ⟨hz.1, by omega⟩)) ?_
    refine VR.pure rfl rfl (p_assignI rfl) ?_
    refine VR.nil ?_
    repeat (first | refine VC.seq ?_ | refine VC.block ?_ | refine VC.skip ?_)
    refine VC.ret ⟨_, ResOf.r1 (v := .int _ _) rfl rfl, ?_⟩
    exact ⟨rfl, rfl⟩
theorem make_c {ep k : Int} (he : 0 ≤ ep ∧ ep ≤ 1073741824) (hk : 0 ≤ k ∧ k < 4294967296) : Calls Try.prog 32 #[.int .i64 ep, .int .i64 k] w (Ret fun v w' => v = .int .i64 (ep * 4294967296 + k) ∧ w' = w) := by
  refine Calls.of_vc Try.func32 rfl Try.ntmps32 rfl ?_
  repeat (first | refine VC.seq ?_ | refine VC.block ?_ | refine VC.skip ?_)
  refine VC.region ?_
  refine VR.pure rfl rfl (p_assignI rfl) ?_
  refine VR.nil ?_
  repeat (first | refine VC.seq ?_ | refine VC.block ?_ | refine VC.skip ?_)
  refine VC.region ?_
  refine VR.pure rfl rfl (p_moveI rfl) ?_
  refine VR.pure rfl rfl (p_lt rfl rfl) ?_
  refine VR.pure rfl rfl (p_moveB rfl) ?_
  refine VR.knownF 7 rfl (decide_eq_false (by omega)) ?_
  refine VR.pureG rfl rfl (p_moveI rfl) ?_
  refine VR.pureG rfl rfl (p_gt rfl rfl) ?_
  refine VR.pure rfl rfl (p_pickF rfl rfl) ?_
  refine VR.pure rfl rfl (p_moveB rfl) ?_
  refine VR.knownF 11 rfl (decide_eq_false (by omega)) ?_
  refine VR.pureG rfl rfl (p_moveI rfl) ?_
  refine VR.pureG rfl rfl (p_lt rfl rfl) ?_
  refine VR.pure rfl rfl (p_pickF rfl rfl) ?_
  refine VR.pure rfl rfl (p_moveB rfl) ?_
  refine VR.knownF 15 rfl (decide_eq_false (by omega)) ?_
  refine VR.pureG rfl rfl (p_moveI rfl) ?_
  refine VR.pureG rfl rfl (p_ge rfl rfl) ?_
  refine VR.pure rfl rfl (p_pickF rfl rfl) ?_
  refine VR.nil ?_
  repeat (first | refine VC.seq ?_ | refine VC.block ?_ | refine VC.skip ?_)
  refine VC.condF rfl (decide_eq_false (by omega)) ?_
  repeat (first | refine VC.seq ?_ | refine VC.block ?_ | refine VC.skip ?_)
  refine VC.region ?_
  refine VR.pure rfl rfl (p_moveI rfl) ?_
  refine VR.pure rfl rfl (p_shl64 (c := 32) (p := 4294967296) rfl rfl (by decide) (by omega)) ?_
  refine VR.pure rfl rfl (p_moveI rfl) ?_
  refine VR.pure rfl rfl (p_or64E rfl rfl (or_val he hk)) ?_
  refine VR.pure rfl rfl (p_assignI rfl) ?_
  refine VR.nil ?_
  repeat (first | refine VC.seq ?_ | refine VC.block ?_ | refine VC.skip ?_)
  refine VC.ret ⟨_, ResOf.r1 (v := .int _ _) rfl rfl, ?_⟩
  exact ⟨rfl, rfl⟩
theorem needs_c {g : Nat} {id cur last : Int} {A : Option Addr} {c : Nat} {stage ep : Int} {td : Nat → Td} {prop com z : Int} (hm : Mem F w Ls) (hg : F.heap g = some (tOb id cur last A 1 c stage ep td prop com)) (hc : 1 ≤ c) :
    Calls Try.prog 43 #[.pointer (some ⟨g, 0, none⟩), .int .i64 z] w (Ret fun v w' => v = .slice A 1 c ∧ Mem F w' Ls) := by
  refine Calls.of_vc Try.func43 rfl Try.ntmps43 rfl ?_
  repeat (first | refine VC.seq ?_ | refine VC.block ?_ | refine VC.skip ?_)
  refine VC.region ?_
  refine VR.pure rfl rfl (p_assignL rfl) ?_
  refine VR.nil ?_
  repeat (first | refine VC.seq ?_ | refine VC.block ?_ | refine VC.skip ?_)
  refine VC.region ?_
  refine VR.pure rfl rfl (p_assignI rfl) ?_
  refine VR.nil ?_
  repeat (first | refine VC.seq ?_ | refine VC.block ?_ | refine VC.skip ?_)
  refine VC.loop (σ := Unit) (fun _ => [(0, .pointer (some ⟨g, 0, none⟩)), (5, .int .i64 1)]) (fun _ w => Mem F w Ls) (fun _ => 0) () ⟨rfl, rfl, trivial⟩ hm ?_
  clear hm
  rintro _ AA w hm
  repeat (first | refine VC.seq ?_ | refine VC.block ?_ | refine VC.skip ?_)
  refine VC.region ?_
  refine VR.pure rfl rfl (p_moveI rfl) ?_
  refine VR.pure rfl rfl (p_moveP rfl) ?_
  refine VR.pure rfl rfl (p_nilCheck rfl) ?_
  refine VR.pure rfl rfl (p_field (fo := 3) Try.underlying47 rfl Try.sizeOf23 rfl rfl rfl) ?_
  refine VR.val rfl rfl (r_load (v := .slice _ _ _) Try.isAgg23 rfl (hm.fix _ _ hg) rfl) ?_
  refine VR.pure rfl rfl (p_len Try.underlying23 rfl) ?_
  refine VR.pure rfl rfl (p_lt rfl rfl) ?_
  refine VR.pure rfl rfl (p_moveB rfl) ?_
  refine VR.knownF 13 rfl rfl ?_
  refine VR.pass rfl rfl ?_
  refine VR.pass rfl rfl ?_
  refine VR.pass rfl rfl ?_
  refine VR.pass rfl rfl ?_
  refine VR.pass rfl rfl ?_
  refine VR.pass rfl rfl ?_
  refine VR.pass rfl rfl ?_
  refine VR.pass rfl rfl ?_
  refine VR.pass rfl rfl ?_
  refine VR.pass rfl rfl ?_
  refine VR.pure rfl rfl (p_pickF rfl rfl) ?_
  refine VR.nil ?_
  repeat (first | refine VC.seq ?_ | refine VC.block ?_ | refine VC.skip ?_)
  refine VC.condF rfl rfl ?_
  repeat (first | refine VC.seq ?_ | refine VC.block ?_ | refine VC.skip ?_)
  refine VC.exit ?_
  repeat (first | refine VC.seq ?_ | refine VC.block ?_ | refine VC.skip ?_)
  refine VC.region ?_
  refine VR.pure rfl rfl (p_moveP rfl) ?_
  refine VR.pure rfl rfl (p_nilCheck rfl) ?_
  refine VR.pure rfl rfl (p_field (fo := 3) Try.underlying47 rfl Try.sizeOf23 rfl rfl rfl) ?_
  refine VR.val rfl rfl (r_load (v := .slice _ _ _) Try.isAgg23 rfl (hm.fix _ _ hg) rfl) ?_
  refine VR.pure rfl rfl (p_moveI rfl) ?_
  refine VR.pure rfl rfl (p_sliceHN (h := 1) Try.underlying23 Try.sizeOf54 rfl rfl hc) ?_
  refine VR.pure rfl rfl (p_assignL rfl) ?_
  refine VR.nil ?_
  repeat (first | refine VC.seq ?_ | refine VC.block ?_ | refine VC.skip ?_)
  refine VC.ret ⟨_, ResOf.r1 (v := .slice _ _ _) rfl rfl, ?_⟩
  exact ⟨rfl, hm⟩

def comA (a : Ta) : Ta := if a.stage = 4 ∧ a.prop = 1 ∧ a.com < a.ep * 4294967296 + 1 ∧ qT a.es a.td (fun d => decide (a.ep * 4294967296 + 1 ≤ d.ack)) = true then
  ⟨a.id, a.cur, a.last, a.es, a.stage, a.ep, a.td, a.prop, a.ep * 4294967296 + 1⟩ else a
set_option maxHeartbeats 8000000 in
theorem commit_c {g : Nat} {T0 : Tb} (hm : Mem F w ([(g, T0.ob)] :: Ls)) (hT : TOk F.heap T0) (hn : T0.stage = 4 → T0.n = 1) (hep : 0 ≤ T0.ep ∧ T0.ep ≤ 1073741823) (hprop : T0.prop = 0 ∨ T0.prop = 1) (hcom : 0 ≤ T0.com ∧ (T0.stage = 4 → T0.com ≤ T0.ep * 4294967296 + 1)) :
    Calls Try.prog 30 #[.pointer (some ⟨g, 0, none⟩)] w (Ret fun _ w' => ∃ T', T'.abs = comA T0.abs ∧ TOk F.heap T' ∧ Mem F w' ([(g, T'.ob)] :: Ls)) := by
  obtain ⟨id, cur, last, A, n, c, es, stage, ep, td, prop, com⟩ := T0
  have hrow := hT.row
  have hnc := hT.nc
  have hc := hT.c
  have hacc := hT.acc
  have hid := hT.id
  have hn1 := hT.n
  dsimp only at hm hn hep hprop hcom hrow hnc hc hacc hid hn1
  refine Calls.of_vc Try.func30 rfl Try.ntmps30 rfl ?_
  by_cases h4 : stage = 4
  · subst h4
    obtain rfl := hn rfl
    have hcz := hcom.2 rfl
    repeat (first | refine VC.seq ?_ | refine VC.block ?_ | refine VC.skip ?_)
    refine VC.loop (σ := Int) (fun _ => [(0, .pointer (some ⟨g, 0, none⟩))]) (fun cm w => Mem F w ([(g, tOb id cur last A 1 c 4 ep td prop cm)] :: Ls) ∧ (cm = com ∨ (cm = ep * 4294967296 + 1 ∧ prop = 1 ∧ com < ep * 4294967296 + 1 ∧ qT (es.map En.abs) td (fun d => decide (ep * 4294967296 + 1 ≤ d.ack)) = true)))
      (fun cm => (ep * 4294967296 + 1 - cm).toNat) com ⟨rfl, trivial⟩ ⟨hm, .inl rfl⟩ ?_
    clear hm
    rintro cm AA w ⟨hm, hcm⟩
    have hcm0 : 0 ≤ cm ∧ cm ≤ ep * 4294967296 + 1 := by
      rcases hcm with rfl | ⟨rfl, _⟩
      · exact ⟨hcom.1, hcz⟩
      · exact ⟨by omega, Int.le_refl _⟩
    repeat (first | refine VC.seq ?_ | refine VC.block ?_ | refine VC.skip ?_)
    refine VC.region ?_
    refine VR.pure rfl rfl (p_moveP rfl) ?_
    refine VR.pure rfl rfl (p_nilCheck rfl) ?_
    refine VR.pure rfl rfl (p_field (fo := 4) Try.underlying47 rfl Try.sizeOf32 rfl rfl rfl) ?_
    refine VR.val rfl rfl (r_load (v := .int _ _) Try.isAgg32 rfl (hm.at_ 0 0 rfl) rfl) ?_
    refine VR.pure rfl rfl (p_eq rfl rfl) ?_
    refine VR.nil ?_
    repeat (first | refine VC.seq ?_ | refine VC.block ?_ | refine VC.skip ?_)
    refine VC.condD rfl (fun h => ?_) (fun h => ?_)
    · repeat (first | refine VC.seq ?_ | refine VC.block ?_ | refine VC.skip ?_)
      refine VC.meet (σ := Nat) (fun b2 => [(0, .pointer (some ⟨g, 0, none⟩)), (2, .pointer (some ⟨b2, 0, none⟩))]) (fun b2 w => Mem F w ([(b2, .cells #[.int .i64 (max (cm + 1) (ep * 4294967296 + 1))] 22 (0, 0))] :: [(g, tOb id cur last A 1 c 4 ep td prop cm)] :: Ls)) ?_ ?_
      · repeat (first | refine VC.seq ?_ | refine VC.block ?_ | refine VC.skip ?_)
        refine VC.free (Kept F ([(g, tOb id cur last A 1 c 4 ep td prop cm)] :: [])) [9, 11, 12] rfl (by kernel_rfl) (Kept.in2 hm.drew) ?_
        replace hm := hm.drew
        refine VD.pure 0 rfl (by kernel_rfl) rfl rfl (p_moveP rfl) ?_
        refine VD.pure 1 rfl (by kernel_rfl) rfl rfl (p_nilCheck rfl) ?_
        refine VD.pure 2 rfl (by kernel_rfl) rfl rfl (p_field (fo := 47) Try.underlying47 rfl Try.sizeOf22 rfl rfl rfl) ?_
        refine VD.read 3 rfl (by kernel_rfl) rfl rfl (fun w' hw' => r_load (v := .int _ _) Try.isAgg22 rfl (hw'.at_ 0 0 rfl) rfl) ?_
        refine VD.pure 4 rfl (by kernel_rfl) rfl rfl (p_add64 rfl rfl (by omega)) ?_
        refine VD.pure 5 rfl (by kernel_rfl) rfl rfl (p_moveP rfl) ?_
        refine VD.pure 6 rfl (by kernel_rfl) rfl rfl (p_nilCheck rfl) ?_
        refine VD.pure 7 rfl (by kernel_rfl) rfl rfl (p_field (fo := 5) Try.underlying47 rfl Try.sizeOf3 rfl rfl rfl) ?_
        refine VD.read 8 rfl (by kernel_rfl) rfl rfl (fun w' hw' => r_load (v := .int _ _) Try.isAgg3 rfl (hw'.at_ 0 0 rfl) rfl) ?_
        refine VD.turn2 9 11 (by kernel_rfl) ?_ ?_
        refine VDT.call rfl rfl rfl (r_call2 Try.call32 rfl rfl) (make_c (by omega) (by decide)) ?_
        rintro _ _ ⟨rfl, rfl⟩
        refine ⟨Kept.in2 hm, ?_⟩
        refine VD.pure 10 rfl (by kernel_rfl) rfl rfl (p_max rfl rfl) ?_
        refine VD.turn1 11 (by kernel_rfl) ?_
        refine VDT.new hm rfl rfl rfl (n_alloc1 Try.zeroValue22 rfl) (fun b' w' hm' => Kept.in2 hm') ?_
        intro b2 w hm
        refine VD.turn1 12 (by kernel_rfl) ?_
        refine VDT.store (cs' := #[.int .i64 (max (cm + 1) (ep * 4294967296 + 1))]) (v := .int _ _) Try.sizeOf22 rfl rfl rfl rfl rfl rfl hm 0 0 rfl (Nat.ble_eq.mp rfl) rfl (fun w' hm' => Kept.in2 hm') ?_
        intro w hm
        refine VD.nil (by kernel_rfl) rfl ?_
        rotate_left 1
        refine VDT.new hm rfl rfl rfl (n_alloc1 Try.zeroValue22 rfl) (fun b' w' hm' => Kept.in2 hm') ?_
        intro b2 w hm
        refine VD.turn1 9 (by kernel_rfl) ?_
        refine VDT.call rfl rfl rfl (r_call2 Try.call32 rfl rfl) (make_c (by omega) (by decide)) ?_
        rintro _ _ ⟨rfl, rfl⟩
        refine ⟨Kept.in2 hm, ?_⟩
        refine VD.pure 10 rfl (by kernel_rfl) rfl rfl (p_max rfl rfl) ?_
        refine VD.turn1 12 (by kernel_rfl) ?_
        refine VDT.store (cs' := #[.int .i64 (max (cm + 1) (ep * 4294967296 + 1))]) (v := .int _ _) Try.sizeOf22 rfl rfl rfl rfl rfl rfl hm 0 0 rfl (Nat.ble_eq.mp rfl) rfl (fun w' hm' => Kept.in2 hm') ?_
        intro w hm
        refine VD.nil (by kernel_rfl) rfl ?_
        rotate_left 1
        all_goals exact ⟨b2, ⟨rfl, rfl, trivial⟩, hm⟩
      clear hm
      rintro b2 A3 w hm
      generalize hz : max (cm + 1) (ep * 4294967296 + 1) = z at hm
      obtain ⟨G, hu, hm, hb2⟩ := hm.freeze
      replace hb2 := hb2 _ (.head _)
      have hez : epochZ z = ep := by
        rw [show z = ep * 4294967296 + (z - ep * 4294967296) by omega]
        exact epoch_of (by omega) (by omega)
      have hstay : (¬ (prop = 1 ∧ cm < ep * 4294967296 + 1 ∧ qT (es.map En.abs) td (fun d => decide (ep * 4294967296 + 1 ≤ d.ack)) = true)) → Tb.abs ⟨id, cur, last, A, 1, c, es, 4, ep, td, prop, cm⟩ = comA (Tb.abs ⟨id, cur, last, A, 1, c, es, 4, ep, td, prop, com⟩) := fun hno => by
        unfold comA Tb.abs
        dsimp only
        rcases hcm with rfl | ⟨rfl, q1, q2, q3⟩
        · rw [if_neg (fun x => hno x.2)]
        · rw [if_pos ⟨rfl, q1, q2, q3⟩]
      repeat (first | refine VC.seq ?_ | refine VC.block ?_ | refine VC.skip ?_)
      repeat (first | refine VC.seq ?_ | refine VC.block ?_ | refine VC.skip ?_)
      refine VC.loud (Kept G ([(g, tOb id cur last A 1 c 4 ep td prop cm)] :: [])) [1, 9, 20, 22] rfl (by kernel_rfl) (Kept.of1 hm.drew) ?_
      replace hm := hm.drew
      refine VL.read rfl rfl rfl (fun w' hw' => r_load (v := .int _ _) Try.isAgg22 rfl (hw'.fix _ _ hb2) rfl) ?_
      refine VL.call rfl rfl rfl (r_call1 Try.call23 rfl) (epoch_c) ?_
      rintro _ _ ⟨rfl, rfl⟩
      refine ⟨Kept.of1 hm, ?_⟩
      refine VL.pure rfl rfl rfl (p_moveP rfl) ?_
      refine VL.pure rfl rfl rfl (p_nilCheck rfl) ?_
      refine VL.pure rfl rfl rfl (p_field (fo := 5) Try.underlying47 rfl Try.sizeOf3 rfl rfl rfl) ?_
      refine VL.read rfl rfl rfl (fun w' hw' => r_load (v := .int _ _) Try.isAgg3 rfl (hw'.at_ 0 0 rfl) rfl) ?_
      refine VL.pure rfl rfl rfl (p_ne rfl rfl) ?_
      refine VL.pure rfl rfl rfl (p_moveB rfl) ?_
      refine VL.knownF 26 rfl (decide_eq_false (not_not_intro hez)) ?_
      refine VL.readG rfl rfl rfl (fun w' hw' => r_load (v := .int _ _) Try.isAgg22 rfl (hw'.fix _ _ hb2) rfl) ?_
      refine VL.callG rfl rfl rfl (r_call1 Try.call34 rfl) (counter_c (by omega)) ?_
      rintro _ _ ⟨rfl, rfl⟩
      refine ⟨Kept.of1 hm, ?_⟩
      refine VL.pureG rfl rfl rfl (p_moveP rfl) ?_
      refine VL.pureG rfl rfl rfl (p_nilCheck rfl) ?_
      refine VL.pureG rfl rfl rfl (p_field (fo := 46) Try.underlying47 rfl Try.sizeOf3 rfl rfl rfl) ?_
      refine VL.readG rfl rfl rfl (fun w' hw' => r_load (v := .int _ _) Try.isAgg3 rfl (hw'.at_ 0 0 rfl) rfl) ?_
      refine VL.pureG rfl rfl rfl (p_gt rfl rfl) ?_
      refine VL.pure rfl rfl rfl (p_pickF rfl rfl) ?_
      refine VL.pure rfl rfl rfl (p_moveB rfl) ?_
      refine VL.splitD 35 rfl (fun q16 => ?_) (fun q16 => ?_)
      refine VL.pass rfl rfl ?_
      refine VL.pass rfl rfl ?_
      refine VL.pass rfl rfl ?_
      refine VL.pass rfl rfl ?_
      refine VL.pass rfl rfl ?_
      refine VL.pass rfl rfl ?_
      refine VL.pass rfl rfl ?_
      refine VL.pure rfl rfl rfl (p_pickT rfl rfl) ?_
      refine VL.nil ?_
      rotate_left 1
      refine VL.pureG rfl rfl rfl (p_moveP rfl) ?_
      refine VL.pureG rfl rfl rfl (p_moveP rfl) ?_
      refine VL.readG rfl rfl rfl (fun w' hw' => r_load (v := .int _ _) Try.isAgg22 rfl (hw'.fix _ _ hb2) rfl) ?_
      refine VL.callG rfl rfl rfl (r_call2 Try.call43 rfl rfl) (needs_c hm.all (hm.plus_at 0 0 rfl) hnc) ?_
      rintro _ w ⟨rfl, hm'⟩
      replace hm := hm.back0 hm'
      refine ⟨Kept.of1 hm, ?_⟩
      refine VL.pureG rfl rfl rfl (p_makeFunc (vs := []) (cs := [.pointer _]) rfl rfl) ?_
      refine VL.callG rfl rfl rfl (r_call3 Try.call37 rfl rfl rfl) (qAck_c (zz := z) hm.all (hm.plus_at 0 0 rfl) (hm.le _ _ hb2) (by decide) ((hrow.mono hu.heap).mono hm.le)) ?_
      rintro _ w ⟨rfl, hm'⟩
      replace hm := hm.back0 hm'
      refine ⟨Kept.of1 hm, ?_⟩
      refine VL.pureG rfl rfl rfl (p_not rfl) ?_
      refine VL.pure rfl rfl rfl (p_pickF rfl rfl) ?_
      refine VL.nil ?_
      rotate_left 1
      · repeat (first | refine VC.seq ?_ | refine VC.block ?_ | refine VC.skip ?_)
        refine VC.condT rfl rfl ?_
        refine VC.ret ⟨_, ResOf.r0 rfl, ⟨id, cur, last, A, 1, c, es, 4, ep, td, prop, cm⟩, hstay ?_, ⟨hrow, Nat.le_refl _, hnc, hc, hid, hacc⟩, hm.shrink hu⟩
        rintro ⟨q1, q2, q3⟩
        omega
      · have hz1 : z = ep * 4294967296 + 1 ∧ prop = 1 ∧ cm < ep * 4294967296 + 1 := by omega
        obtain ⟨hze, hp1, hlt⟩ := hz1
        by_cases hq : qT (es.map En.abs) td (fun d => decide (z ≤ d.ack)) = true
        · repeat (first | refine VC.seq ?_ | refine VC.block ?_ | refine VC.skip ?_)
          refine VC.condF rfl (by rw [hq]; rfl) ?_
          repeat (first | refine VC.seq ?_ | refine VC.block ?_ | refine VC.skip ?_)
          refine VC.region ?_
          refine VR.pure rfl rfl (p_moveP rfl) ?_
          refine VR.val rfl rfl (r_load (v := .int _ _) Try.isAgg22 rfl (hm.fix _ _ hb2) rfl) ?_
          refine VR.pure rfl rfl (p_nilCheck rfl) ?_
          refine VR.pure rfl rfl (p_field (fo := 47) Try.underlying47 rfl Try.sizeOf22 rfl rfl rfl) ?_
          refine VR.store (cs' := (tcl id cur last A 1 c 4 ep td prop z)) (v := .int _ _) Try.sizeOf22 rfl rfl rfl rfl rfl hm 0 0 rfl (Nat.ble_eq.mp rfl) rfl ?_
          intro w hm
          refine VR.nil ?_
          repeat (first | refine VC.seq ?_ | refine VC.block ?_ | refine VC.skip ?_)
          refine VC.loud (Kept G ([(g, tOb id cur last A 1 c 4 ep td prop z)] :: [])) [] rfl (by kernel_rfl) (Kept.of1 hm.drew) ?_
          replace hm := hm.drew
          refine VL.pure rfl rfl rfl (p_moveP rfl) ?_
          refine VL.pure rfl rfl rfl (p_nilCheck rfl) ?_
          refine VL.pure rfl rfl rfl (p_field (fo := 3) Try.underlying47 rfl Try.sizeOf23 rfl rfl rfl) ?_
          refine VL.read rfl rfl rfl (fun w' hw' => r_load (v := .slice _ _ _) Try.isAgg23 rfl (hw'.at_ 0 0 rfl) rfl) ?_
          refine VL.pure rfl rfl rfl (p_len Try.underlying23 rfl) ?_
          refine VL.pure rfl rfl rfl (p_gt rfl rfl) ?_
          refine VL.pure rfl rfl rfl (p_moveB rfl) ?_
          refine VL.knownF 54 rfl rfl ?_
          refine VL.pass rfl rfl ?_
          refine VL.pass rfl rfl ?_
          refine VL.pass rfl rfl ?_
          refine VL.pass rfl rfl ?_
          refine VL.pass rfl rfl ?_
          refine VL.pass rfl rfl ?_
          refine VL.pass rfl rfl ?_
          refine VL.pass rfl rfl ?_
          refine VL.pass rfl rfl ?_
          refine VL.pure rfl rfl rfl (p_pickF rfl rfl) ?_
          refine VL.nil ?_
          repeat (first | refine VC.seq ?_ | refine VC.block ?_ | refine VC.skip ?_)
          refine VC.condF rfl rfl ?_
          repeat (first | refine VC.seq ?_ | refine VC.block ?_ | refine VC.skip ?_)
          rcases hcm with rfl | ⟨rfl, _⟩
          · exact ⟨z, ⟨rfl, trivial⟩, ⟨hm.shrink hu, .inr ⟨hze, hp1, hlt, by rw [← hze]; exact hq⟩⟩, by omega⟩
          · omega
        · repeat (first | refine VC.seq ?_ | refine VC.block ?_ | refine VC.skip ?_)
          refine VC.condT rfl (by rw [Bool.not_eq_true _ |>.mp hq]; rfl) ?_
          refine VC.ret ⟨_, ResOf.r0 rfl, ⟨id, cur, last, A, 1, c, es, 4, ep, td, prop, cm⟩, hstay ?_, ⟨hrow, Nat.le_refl _, hnc, hc, hid, hacc⟩, hm.shrink hu⟩
          exact fun x => hq (by rw [hze]; exact x.2.2)
    · exact absurd rfl h
  · repeat (first | refine VC.seq ?_ | refine VC.block ?_ | refine VC.skip ?_)
    refine VC.loop (σ := Unit) (fun _ => [(0, .pointer (some ⟨g, 0, none⟩))]) (fun _ w => Mem F w ([(g, tOb id cur last A n c stage ep td prop com)] :: Ls)) (fun _ => 0) () ⟨rfl, trivial⟩ hm ?_
    clear hm
    rintro _ AA w hm
    repeat (first | refine VC.seq ?_ | refine VC.block ?_ | refine VC.skip ?_)
    refine VC.region ?_
    refine VR.pure rfl rfl (p_moveP rfl) ?_
    refine VR.pure rfl rfl (p_nilCheck rfl) ?_
    refine VR.pure rfl rfl (p_field (fo := 4) Try.underlying47 rfl Try.sizeOf32 rfl rfl rfl) ?_
    refine VR.val rfl rfl (r_load (v := .int _ _) Try.isAgg32 rfl (hm.at_ 0 0 rfl) rfl) ?_
    refine VR.pure rfl rfl (p_eq rfl rfl) ?_
    refine VR.nil ?_
    repeat (first | refine VC.seq ?_ | refine VC.block ?_ | refine VC.skip ?_)
    refine VC.condD rfl (fun h => ?_) (fun h => ?_)
    · exact absurd h h4
    · repeat (first | refine VC.seq ?_ | refine VC.block ?_ | refine VC.skip ?_)
      refine VC.exit ?_
      repeat (first | refine VC.seq ?_ | refine VC.block ?_ | refine VC.skip ?_)
      refine ⟨_, ResOf.r0 rfl, ⟨id, cur, last, A, n, c, es, stage, ep, td, prop, com⟩, ?_, hT, hm⟩
      unfold comA
      rw [if_neg (fun x => h4 x.1)]
end
end Go.Bd
