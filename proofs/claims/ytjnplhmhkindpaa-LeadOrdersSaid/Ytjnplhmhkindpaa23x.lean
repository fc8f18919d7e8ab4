/- Contracts of layer 23: a table made. Conditions: as each states. -/
import Derived.Test.Ytjnplhmhkindpaa23w
namespace Go.Bd
open Go.Proofs
set_option linter.unusedVariables false
set_option maxRecDepth 20000

def tdZ : Nat → Td := fun _ => ⟨false, 0, false, false, 0⟩
def td0 : Nat → Td := fun _ => ⟨false, 0, false, false, -1⟩
def tdK (k : Nat) : Nat → Td := fun j => if j < k then ⟨false, 0, false, false, -1⟩ else ⟨false, 0, false, false, 0⟩
theorem tdK_zero : tdK 0 = tdZ := funext fun j => if_neg (by omega)
theorem tdK_step (k : Nat) : updT (tdK k) k { tdK k k with ack := -1 } = tdK (k + 1) := funext fun j => by
  unfold updT tdK
  by_cases e : j = k
  · subst e
    rw [if_pos rfl, if_neg (by omega), if_pos (by omega)]
  · rw [if_neg e]
    by_cases h : j < k
    · rw [if_pos h, if_pos (by omega)]
    · rw [if_neg h, if_neg (by omega)]
def newA (id acc cur last : Int) (es : List (Int × List Mb)) (td : Nat → Td) : Ta := ⟨id, cur, last, es, 1, 0, td, 0, 0⟩
def tdN (k : Nat) (acc : Int) : Nat → Td := updT (tdK 8) k ⟨true, acc, false, false, -1⟩
theorem tdN_acc {k : Nat} {acc : Int} (h : 0 ≤ acc ∧ acc ≤ 1073741822) : ∀ j, j < 8 → 0 ≤ (tdN k acc j).acc ∧ (tdN k acc j).acc ≤ 1073741822 := fun j hj => by
  unfold tdN updT
  split
  · exact h
  · unfold tdK
    split <;> exact ⟨by decide, by decide⟩
structure NewOk (id acc cur last : Int) (es : List En) : Prop where
  cid : 1 ≤ id ∧ id ≤ 7
  ccur : 0 ≤ cur ∧ cur ≤ acc
  cacc : acc ≤ 1073741822
  clast : 0 ≤ last ∧ last ≤ 4611686018427387904 ∧ epochZ last ≤ cur
  len : 1 ≤ es.length ∧ es.length ≤ 2
  check : ∀ e ∈ es, checkE e.ver e.ms = 0
  rise : ∀ i a b, es[i]? = some a → es[i + 1]? = some b → a.ver < b.ver
theorem Kept.in4 {F : Env} {w : World} {Ms : List Blks} {L : Blks} (h : Mem F w Ms) (e : L ∈ Ms := by first
  | exact .head _
  | exact .tail _ (.head _)
  | exact .tail _ (.tail _ (.head _))
  | exact .tail _ (.tail _ (.tail _ (.head _)))) : Kept F [L] w := Kept.mem' h e
section
variable {F : Env} {w : World} {Ls : List Blks}
set_option maxHeartbeats 8000000 in
theorem new_c {id acc cur last : Int} {A0 : Option Addr} {n0 c0 : Nat} {es : List En} (hm : Mem F w Ls) (hr : ERow F.heap A0 n0 es) (hn0 : n0 ≤ maxLen) (hsm : ∀ e ∈ es, e.n * 32 ≤ 140737488355328) :
    Calls Try.prog 6 #[.int .i64 id, .int .i64 acc, .int .i64 cur, .int .i64 last, .slice A0 n0 c0] w
      (Ret fun v w' => (NewOk id acc cur last es ∧ ∃ g T' G, v = .pointer (some ⟨g, 0, none⟩) ∧ F.under G ∧ TOk G.heap T' ∧ T'.abs = onA (newA id acc cur last (es.map En.abs) (tdN id.toNat acc)) ∧ Mem G w' ([(g, T'.ob)] :: Ls)) ∨ (¬ NewOk id acc cur last es ∧ v = .pointer none ∧ Mem F w' Ls)) := by
  have hl := hr.len
  unfold maxLen at hn0
  refine Calls.of_vc Try.func6 rfl Try.ntmps6 rfl ?_
  repeat (first | refine VC.seq ?_ | refine VC.block ?_ | refine VC.skip ?_)
  refine VC.region ?_
  refine VR.pure rfl rfl (p_assignP rfl) ?_
  refine VR.nil ?_
  repeat (first | refine VC.seq ?_ | refine VC.block ?_ | refine VC.skip ?_)
  refine VC.region ?_
  refine VR.pure rfl rfl (p_moveI rfl) ?_
  refine VR.call rfl rfl (r_call1 Try.call22 rfl) (server_c) ?_
  rintro _ _ ⟨rfl, rfl⟩
  refine VR.pure rfl rfl (p_notD rfl) ?_
  refine VR.pure rfl rfl (p_moveB rfl) ?_
  refine VR.splitD 18 rfl (fun q3 => ?_) (fun q3 => ?_)
  refine VR.pass rfl rfl ?_
  refine VR.pass rfl rfl ?_
  refine VR.pure rfl rfl (p_pickT rfl rfl) ?_
  refine VR.pure rfl rfl (p_moveB rfl) ?_
  refine VR.pass rfl rfl ?_
  refine VR.pass rfl rfl ?_
  refine VR.pass rfl rfl ?_
  refine VR.pure rfl rfl (p_pickT rfl rfl) ?_
  refine VR.pure rfl rfl (p_moveB rfl) ?_
  refine VR.pass rfl rfl ?_
  refine VR.pass rfl rfl ?_
  refine VR.pure rfl rfl (p_pickT rfl rfl) ?_
  refine VR.pure rfl rfl (p_moveB rfl) ?_
  refine VR.pass rfl rfl ?_
  refine VR.pass rfl rfl ?_
  refine VR.pure rfl rfl (p_pickT rfl rfl) ?_
  refine VR.pure rfl rfl (p_moveB rfl) ?_
  refine VR.pass rfl rfl ?_
  refine VR.pass rfl rfl ?_
  refine VR.pure rfl rfl (p_pickT rfl rfl) ?_
  refine VR.pure rfl rfl (p_moveB rfl) ?_
  refine VR.pass rfl rfl ?_
  refine VR.pass rfl rfl ?_
  refine VR.pass rfl rfl ?_
  refine VR.pass rfl rfl ?_
  refine VR.pure rfl rfl (p_pickT rfl rfl) ?_
  refine VR.pure rfl rfl (p_moveB rfl) ?_
  refine VR.pass rfl rfl ?_
  refine VR.pass rfl rfl ?_
  refine VR.pass rfl rfl ?_
  refine VR.pure rfl rfl (p_pickT rfl rfl) ?_
  refine VR.pure rfl rfl (p_moveB rfl) ?_
  refine VR.pass rfl rfl ?_
  refine VR.pass rfl rfl ?_
  refine VR.pass rfl rfl ?_
  refine VR.pure rfl rfl (p_pickT rfl rfl) ?_
  refine VR.nil ?_
  rotate_left 1
  refine VR.pureG rfl rfl (p_moveI rfl) ?_
  refine VR.pureG rfl rfl (p_lt rfl rfl) ?_
  refine VR.pure rfl rfl (p_pickF rfl rfl) ?_
  refine VR.pure rfl rfl (p_moveB rfl) ?_
  refine VR.splitD 22 rfl (fun q7 => ?_) (fun q7 => ?_)
  refine VR.pass rfl rfl ?_
  refine VR.pass rfl rfl ?_
  refine VR.pass rfl rfl ?_
  refine VR.pure rfl rfl (p_pickT rfl rfl) ?_
  refine VR.pure rfl rfl (p_moveB rfl) ?_
  refine VR.pass rfl rfl ?_
  refine VR.pass rfl rfl ?_
  refine VR.pure rfl rfl (p_pickT rfl rfl) ?_
  refine VR.pure rfl rfl (p_moveB rfl) ?_
  refine VR.pass rfl rfl ?_
  refine VR.pass rfl rfl ?_
  refine VR.pure rfl rfl (p_pickT rfl rfl) ?_
  refine VR.pure rfl rfl (p_moveB rfl) ?_
  refine VR.pass rfl rfl ?_
  refine VR.pass rfl rfl ?_
  refine VR.pure rfl rfl (p_pickT rfl rfl) ?_
  refine VR.pure rfl rfl (p_moveB rfl) ?_
  refine VR.pass rfl rfl ?_
  refine VR.pass rfl rfl ?_
  refine VR.pass rfl rfl ?_
  refine VR.pass rfl rfl ?_
  refine VR.pure rfl rfl (p_pickT rfl rfl) ?_
  refine VR.pure rfl rfl (p_moveB rfl) ?_
  refine VR.pass rfl rfl ?_
  refine VR.pass rfl rfl ?_
  refine VR.pass rfl rfl ?_
  refine VR.pure rfl rfl (p_pickT rfl rfl) ?_
  refine VR.pure rfl rfl (p_moveB rfl) ?_
  refine VR.pass rfl rfl ?_
  refine VR.pass rfl rfl ?_
  refine VR.pass rfl rfl ?_
  refine VR.pure rfl rfl (p_pickT rfl rfl) ?_
  refine VR.nil ?_
  rotate_left 1
  refine VR.pureG rfl rfl (p_moveI rfl) ?_
  refine VR.pureG rfl rfl (p_moveI rfl) ?_
  refine VR.pureG rfl rfl (p_gt rfl rfl) ?_
  refine VR.pure rfl rfl (p_pickF rfl rfl) ?_
  refine VR.pure rfl rfl (p_moveB rfl) ?_
  refine VR.splitD 27 rfl (fun q12 => ?_) (fun q12 => ?_)
  refine VR.pass rfl rfl ?_
  refine VR.pass rfl rfl ?_
  refine VR.pure rfl rfl (p_pickT rfl rfl) ?_
  refine VR.pure rfl rfl (p_moveB rfl) ?_
  refine VR.pass rfl rfl ?_
  refine VR.pass rfl rfl ?_
  refine VR.pure rfl rfl (p_pickT rfl rfl) ?_
  refine VR.pure rfl rfl (p_moveB rfl) ?_
  refine VR.pass rfl rfl ?_
  refine VR.pass rfl rfl ?_
  refine VR.pure rfl rfl (p_pickT rfl rfl) ?_
  refine VR.pure rfl rfl (p_moveB rfl) ?_
  refine VR.pass rfl rfl ?_
  refine VR.pass rfl rfl ?_
  refine VR.pass rfl rfl ?_
  refine VR.pass rfl rfl ?_
  refine VR.pure rfl rfl (p_pickT rfl rfl) ?_
  refine VR.pure rfl rfl (p_moveB rfl) ?_
  refine VR.pass rfl rfl ?_
  refine VR.pass rfl rfl ?_
  refine VR.pass rfl rfl ?_
  refine VR.pure rfl rfl (p_pickT rfl rfl) ?_
  refine VR.pure rfl rfl (p_moveB rfl) ?_
  refine VR.pass rfl rfl ?_
  refine VR.pass rfl rfl ?_
  refine VR.pass rfl rfl ?_
  refine VR.pure rfl rfl (p_pickT rfl rfl) ?_
  refine VR.nil ?_
  rotate_left 1
  refine VR.pureG rfl rfl (p_moveI rfl) ?_
  refine VR.pureG rfl rfl (p_gt rfl rfl) ?_
  refine VR.pure rfl rfl (p_pickF rfl rfl) ?_
  refine VR.pure rfl rfl (p_moveB rfl) ?_
  refine VR.splitD 31 rfl (fun q16 => ?_) (fun q16 => ?_)
  refine VR.pass rfl rfl ?_
  refine VR.pass rfl rfl ?_
  refine VR.pure rfl rfl (p_pickT rfl rfl) ?_
  refine VR.pure rfl rfl (p_moveB rfl) ?_
  refine VR.pass rfl rfl ?_
  refine VR.pass rfl rfl ?_
  refine VR.pure rfl rfl (p_pickT rfl rfl) ?_
  refine VR.pure rfl rfl (p_moveB rfl) ?_
  refine VR.pass rfl rfl ?_
  refine VR.pass rfl rfl ?_
  refine VR.pass rfl rfl ?_
  refine VR.pass rfl rfl ?_
  refine VR.pure rfl rfl (p_pickT rfl rfl) ?_
  refine VR.pure rfl rfl (p_moveB rfl) ?_
  refine VR.pass rfl rfl ?_
  refine VR.pass rfl rfl ?_
  refine VR.pass rfl rfl ?_
  refine VR.pure rfl rfl (p_pickT rfl rfl) ?_
  refine VR.pure rfl rfl (p_moveB rfl) ?_
  refine VR.pass rfl rfl ?_
  refine VR.pass rfl rfl ?_
  refine VR.pass rfl rfl ?_
  refine VR.pure rfl rfl (p_pickT rfl rfl) ?_
  refine VR.nil ?_
  rotate_left 1
  refine VR.pureG rfl rfl (p_moveI rfl) ?_
  refine VR.pureG rfl rfl (p_lt rfl rfl) ?_
  refine VR.pure rfl rfl (p_pickF rfl rfl) ?_
  refine VR.pure rfl rfl (p_moveB rfl) ?_
  refine VR.splitD 35 rfl (fun q20 => ?_) (fun q20 => ?_)
  refine VR.pass rfl rfl ?_
  refine VR.pass rfl rfl ?_
  refine VR.pure rfl rfl (p_pickT rfl rfl) ?_
  refine VR.pure rfl rfl (p_moveB rfl) ?_
  refine VR.pass rfl rfl ?_
  refine VR.pass rfl rfl ?_
  refine VR.pass rfl rfl ?_
  refine VR.pass rfl rfl ?_
  refine VR.pure rfl rfl (p_pickT rfl rfl) ?_
  refine VR.pure rfl rfl (p_moveB rfl) ?_
  refine VR.pass rfl rfl ?_
  refine VR.pass rfl rfl ?_
  refine VR.pass rfl rfl ?_
  refine VR.pure rfl rfl (p_pickT rfl rfl) ?_
  refine VR.pure rfl rfl (p_moveB rfl) ?_
  refine VR.pass rfl rfl ?_
  refine VR.pass rfl rfl ?_
  refine VR.pass rfl rfl ?_
  refine VR.pure rfl rfl (p_pickT rfl rfl) ?_
  refine VR.nil ?_
  rotate_left 1
  refine VR.pureG rfl rfl (p_moveI rfl) ?_
  refine VR.pureG rfl rfl (p_gt rfl rfl) ?_
  refine VR.pure rfl rfl (p_pickF rfl rfl) ?_
  refine VR.pure rfl rfl (p_moveB rfl) ?_
  refine VR.splitD 39 rfl (fun q24 => ?_) (fun q24 => ?_)
  refine VR.pass rfl rfl ?_
  refine VR.pass rfl rfl ?_
  refine VR.pass rfl rfl ?_
  refine VR.pass rfl rfl ?_
  refine VR.pure rfl rfl (p_pickT rfl rfl) ?_
  refine VR.pure rfl rfl (p_moveB rfl) ?_
  refine VR.pass rfl rfl ?_
  refine VR.pass rfl rfl ?_
  refine VR.pass rfl rfl ?_
  refine VR.pure rfl rfl (p_pickT rfl rfl) ?_
  refine VR.pure rfl rfl (p_moveB rfl) ?_
  refine VR.pass rfl rfl ?_
  refine VR.pass rfl rfl ?_
  refine VR.pass rfl rfl ?_
  refine VR.pure rfl rfl (p_pickT rfl rfl) ?_
  refine VR.nil ?_
  rotate_left 1
  refine VR.pureG rfl rfl (p_moveI rfl) ?_
  refine VR.callG rfl rfl (r_call1 Try.call23 rfl) (epoch_c) ?_
  rintro _ _ ⟨rfl, rfl⟩
  refine VR.pureG rfl rfl (p_moveI rfl) ?_
  refine VR.pureG rfl rfl (p_gt rfl rfl) ?_
  refine VR.pure rfl rfl (p_pickF rfl rfl) ?_
  refine VR.pure rfl rfl (p_moveB rfl) ?_
  refine VR.splitD 45 rfl (fun q30 => ?_) (fun q30 => ?_)
  refine VR.pass rfl rfl ?_
  refine VR.pass rfl rfl ?_
  refine VR.pass rfl rfl ?_
  refine VR.pure rfl rfl (p_pickT rfl rfl) ?_
  refine VR.pure rfl rfl (p_moveB rfl) ?_
  refine VR.pass rfl rfl ?_
  refine VR.pass rfl rfl ?_
  refine VR.pass rfl rfl ?_
  refine VR.pure rfl rfl (p_pickT rfl rfl) ?_
  refine VR.nil ?_
  rotate_left 1
  refine VR.pureG rfl rfl (p_moveL rfl) ?_
  refine VR.pureG rfl rfl (p_len Try.underlying23 rfl) ?_
  refine VR.pureG rfl rfl (p_lt rfl rfl) ?_
  refine VR.pure rfl rfl (p_pickF rfl rfl) ?_
  refine VR.pure rfl rfl (p_moveB rfl) ?_
  refine VR.splitD 50 rfl (fun q35 => ?_) (fun q35 => ?_)
  refine VR.pass rfl rfl ?_
  refine VR.pass rfl rfl ?_
  refine VR.pass rfl rfl ?_
  refine VR.pure rfl rfl (p_pickT rfl rfl) ?_
  refine VR.nil ?_
  rotate_left 1
  refine VR.pureG rfl rfl (p_moveL rfl) ?_
  refine VR.pureG rfl rfl (p_len Try.underlying23 rfl) ?_
  refine VR.pureG rfl rfl (p_gt rfl rfl) ?_
  refine VR.pure rfl rfl (p_pickF rfl rfl) ?_
  refine VR.nil ?_
  rotate_left 1
  · repeat (first | refine VC.seq ?_ | refine VC.block ?_ | refine VC.skip ?_)
    refine VC.condT rfl rfl ?_
    repeat (first | refine VC.seq ?_ | refine VC.block ?_ | refine VC.skip ?_)
    refine VC.region ?_
    refine VR.pure rfl rfl (p_assignP rfl) ?_
    refine VR.nil ?_
    repeat (first | refine VC.seq ?_ | refine VC.block ?_ | refine VC.skip ?_)
    refine VC.ret ⟨_, ResOf.r1 (v := .pointer _) rfl rfl, ?_⟩
    refine .inr ⟨fun h => ?_, rfl, hm⟩
    obtain ⟨k1, k2, k3, k4, k5, k6, k7⟩ := h
    omega
  · repeat (first | refine VC.seq ?_ | refine VC.block ?_ | refine VC.skip ?_)
    refine VC.condT rfl rfl ?_
    repeat (first | refine VC.seq ?_ | refine VC.block ?_ | refine VC.skip ?_)
    refine VC.region ?_
    refine VR.pure rfl rfl (p_assignP rfl) ?_
    refine VR.nil ?_
    repeat (first | refine VC.seq ?_ | refine VC.block ?_ | refine VC.skip ?_)
    refine VC.ret ⟨_, ResOf.r1 (v := .pointer _) rfl rfl, ?_⟩
    refine .inr ⟨fun h => ?_, rfl, hm⟩
    obtain ⟨k1, k2, k3, k4, k5, k6, k7⟩ := h
    omega
  · repeat (first | refine VC.seq ?_ | refine VC.block ?_ | refine VC.skip ?_)
    refine VC.condT rfl rfl ?_
    repeat (first | refine VC.seq ?_ | refine VC.block ?_ | refine VC.skip ?_)
    refine VC.region ?_
    refine VR.pure rfl rfl (p_assignP rfl) ?_
    refine VR.nil ?_
    repeat (first | refine VC.seq ?_ | refine VC.block ?_ | refine VC.skip ?_)
    refine VC.ret ⟨_, ResOf.r1 (v := .pointer _) rfl rfl, ?_⟩
    refine .inr ⟨fun h => ?_, rfl, hm⟩
    obtain ⟨k1, k2, k3, k4, k5, k6, k7⟩ := h
    omega
  · repeat (first | refine VC.seq ?_ | refine VC.block ?_ | refine VC.skip ?_)
    refine VC.condT rfl rfl ?_
    repeat (first | refine VC.seq ?_ | refine VC.block ?_ | refine VC.skip ?_)
    refine VC.region ?_
    refine VR.pure rfl rfl (p_assignP rfl) ?_
    refine VR.nil ?_
    repeat (first | refine VC.seq ?_ | refine VC.block ?_ | refine VC.skip ?_)
    refine VC.ret ⟨_, ResOf.r1 (v := .pointer _) rfl rfl, ?_⟩
    refine .inr ⟨fun h => ?_, rfl, hm⟩
    obtain ⟨k1, k2, k3, k4, k5, k6, k7⟩ := h
    omega
  · repeat (first | refine VC.seq ?_ | refine VC.block ?_ | refine VC.skip ?_)
    refine VC.condT rfl rfl ?_
    repeat (first | refine VC.seq ?_ | refine VC.block ?_ | refine VC.skip ?_)
    refine VC.region ?_
    refine VR.pure rfl rfl (p_assignP rfl) ?_
    refine VR.nil ?_
    repeat (first | refine VC.seq ?_ | refine VC.block ?_ | refine VC.skip ?_)
    refine VC.ret ⟨_, ResOf.r1 (v := .pointer _) rfl rfl, ?_⟩
    refine .inr ⟨fun h => ?_, rfl, hm⟩
    obtain ⟨k1, k2, k3, k4, k5, k6, k7⟩ := h
    omega
  · repeat (first | refine VC.seq ?_ | refine VC.block ?_ | refine VC.skip ?_)
    refine VC.condT rfl rfl ?_
    repeat (first | refine VC.seq ?_ | refine VC.block ?_ | refine VC.skip ?_)
    refine VC.region ?_
    refine VR.pure rfl rfl (p_assignP rfl) ?_
    refine VR.nil ?_
    repeat (first | refine VC.seq ?_ | refine VC.block ?_ | refine VC.skip ?_)
    refine VC.ret ⟨_, ResOf.r1 (v := .pointer _) rfl rfl, ?_⟩
    refine .inr ⟨fun h => ?_, rfl, hm⟩
    obtain ⟨k1, k2, k3, k4, k5, k6, k7⟩ := h
    omega
  · repeat (first | refine VC.seq ?_ | refine VC.block ?_ | refine VC.skip ?_)
    refine VC.condT rfl rfl ?_
    repeat (first | refine VC.seq ?_ | refine VC.block ?_ | refine VC.skip ?_)
    refine VC.region ?_
    refine VR.pure rfl rfl (p_assignP rfl) ?_
    refine VR.nil ?_
    repeat (first | refine VC.seq ?_ | refine VC.block ?_ | refine VC.skip ?_)
    refine VC.ret ⟨_, ResOf.r1 (v := .pointer _) rfl rfl, ?_⟩
    refine .inr ⟨fun h => ?_, rfl, hm⟩
    obtain ⟨k1, k2, k3, k4, k5, k6, k7⟩ := h
    omega
  · repeat (first | refine VC.seq ?_ | refine VC.block ?_ | refine VC.skip ?_)
    refine VC.condT rfl rfl ?_
    repeat (first | refine VC.seq ?_ | refine VC.block ?_ | refine VC.skip ?_)
    refine VC.region ?_
    refine VR.pure rfl rfl (p_assignP rfl) ?_
    refine VR.nil ?_
    repeat (first | refine VC.seq ?_ | refine VC.block ?_ | refine VC.skip ?_)
    refine VC.ret ⟨_, ResOf.r1 (v := .pointer _) rfl rfl, ?_⟩
    refine .inr ⟨fun h => ?_, rfl, hm⟩
    obtain ⟨k1, k2, k3, k4, k5, k6, k7⟩ := h
    omega
  repeat (first | refine VC.seq ?_ | refine VC.block ?_ | refine VC.skip ?_)
  refine VC.condD rfl (fun q39 => ?_) (fun q39 => ?_)
  · repeat (first | refine VC.seq ?_ | refine VC.block ?_ | refine VC.skip ?_)
    refine VC.region ?_
    refine VR.pure rfl rfl (p_assignP rfl) ?_
    refine VR.nil ?_
    repeat (first | refine VC.seq ?_ | refine VC.block ?_ | refine VC.skip ?_)
    refine VC.ret ⟨_, ResOf.r1 (v := .pointer _) rfl rfl, ?_⟩
    refine .inr ⟨fun h => ?_, rfl, hm⟩
    obtain ⟨k1, k2, k3, k4, k5, k6, k7⟩ := h
    omega
  repeat (first | refine VC.seq ?_ | refine VC.block ?_ | refine VC.skip ?_)
  refine VC.region ?_
  refine VR.pure rfl rfl (p_moveI rfl) ?_
  refine VR.pure rfl rfl (p_moveI rfl) ?_
  refine VR.pure rfl rfl (p_moveI rfl) ?_
  refine VR.pure rfl rfl (p_build (vs := [(0, .int _ _), (1, .int _ _), (2, .int _ _), (4, .int _ _)]) bld47_0_1_2_4 rfl) ?_
  refine VR.new hm rfl rfl (n_boxG rfl) ?_
  intro g w hm
  refine VR.pure rfl rfl (p_assignP rfl) ?_
  refine VR.nil ?_
  replace hm : Mem F w ([(g, tOb id cur last none 0 0 1 0 tdZ 0 0)] :: Ls) := hm
  repeat (first | refine VC.seq ?_ | refine VC.block ?_ | refine VC.skip ?_)
  refine VC.region ?_
  refine VR.pure rfl rfl (p_moveL rfl) ?_
  refine VR.pure rfl rfl (p_len Try.underlying23 rfl) ?_
  refine VR.pure rfl rfl (p_moveI rfl) ?_
  refine VR.nil ?_
  repeat (first | refine VC.seq ?_ | refine VC.block ?_ | refine VC.skip ?_)
  refine VC.loop (σ := Nat × Option Addr × Nat × List En × Blks) (fun s => [(0, .int .i64 id), (1, .int .i64 acc), (4, .slice A0 n0 c0), (11, .pointer (some ⟨g, 0, none⟩)), (60, .slice A0 n0 c0), (61, .int .i64 n0), (62, .int .i64 s.1)])
    (fun s w => s.1 ≤ n0 ∧ ∃ G, F.under G ∧ Mem G w (s.2.2.2.2 :: [(g, tOb id cur last s.2.1 s.1 s.2.2.1 1 0 tdZ 0 0)] :: Ls) ∧ OwnS 54 2 s.2.1 s.1 s.2.2.1 (ecells s.2.2.2.1) s.2.2.2.2 ∧ (∀ o ∈ s.2.2.2.1, EnOk G.heap o) ∧ s.2.2.2.1.map En.abs = (es.take s.1).map En.abs ∧
      (∀ e ∈ es.take s.1, checkE e.ver e.ms = 0) ∧ ∀ i a b, i + 1 < s.1 → es[i]? = some a → es[i + 1]? = some b → a.ver < b.ver) (fun s => n0 - s.1)
    (0, none, 0, [], []) ⟨rfl, rfl, rfl, rfl, rfl, rfl, rfl, trivial⟩ ⟨by show 0 ≤ n0; omega, F, Env.under_refl F, hm.nil_, OwnS.nil _ _, by simp, rfl, by simp, fun i a b h => by dsimp only at h; omega⟩ ?_
  clear hm
  rintro ⟨i, A, c, os, L⟩ AA w ⟨hi, G, hu, hm, ho, hoks, habs, hchk, hrise⟩
  dsimp only at hi hm ho hoks habs hchk hrise ⊢
  repeat (first | refine VC.seq ?_ | refine VC.block ?_ | refine VC.skip ?_)
  refine VC.region ?_
  refine VR.pure rfl rfl (p_lt rfl rfl) ?_
  refine VR.nil ?_
  repeat (first | refine VC.seq ?_ | refine VC.block ?_ | refine VC.skip ?_)
  refine VC.condD rfl (fun hlt => ?_) (fun hlt => ?_)
  · have hi' : i < n0 := by omega
    obtain ⟨e, he, hem⟩ := get_of (xs := es) (k := i) (by omega)
    obtain ⟨b, off, blk, T, fr, rfl, hb, hcc⟩ := hr.row.elem En.len (by decide) (by omega)
    replace hb := hu.heap _ _ hb
    have hen := hsm e hem
    have hok := (hr.each e hem).mono hu.heap
    repeat (first | refine VC.seq ?_ | refine VC.block ?_ | refine VC.skip ?_)
    repeat (first | refine VC.seq ?_ | refine VC.block ?_ | refine VC.skip ?_)
    refine VC.region ?_
    refine VR.pure rfl rfl (p_moveI rfl) ?_
    refine VR.pure rfl rfl (p_idxN Try.underlying23 Try.sizeOf54 rfl rfl hi') ?_
    refine VR.val rfl rfl (r_loadAgg (vs := [.int .i64 e.ver, .slice e.A e.n e.c]) Try.isAgg54 Try.sizeOf54 rfl (hm.fix _ _ hb) rfl (hcc i e he)) ?_
    refine VR.new hm rfl rfl (n_allocG Try.zeroValue54) ?_
    intro b13 w hm
    refine VR.pure rfl rfl (p_assignI rfl) ?_
    refine VR.store (cs' := #[.int .i64 e.ver, .slice e.A e.n e.c]) (v := .agg _) Try.sizeOf54 rfl rfl rfl rfl rfl hm 0 0 rfl (Nat.ble_eq.mp rfl) rfl ?_
    intro w hm
    refine VR.nil ?_
    have htk : es.take (i + 1) = es.take i ++ [e] := by rw [List.take_add_one, he]; rfl
    repeat (first | refine VC.seq ?_ | refine VC.block ?_ | refine VC.skip ?_)
    refine VC.meet (σ := Bool) (fun bd => [(0, .int .i64 id), (1, .int .i64 acc), (4, .slice (some ⟨b, off, none⟩) n0 c0), (11, .pointer (some ⟨g, 0, none⟩)), (13, .pointer (some ⟨b13, 0, none⟩)), (60, .slice (some ⟨b, off, none⟩) n0 c0), (61, .int .i64 n0), (62, .int .i64 i), (84, .bool bd)])
      (fun bd w => Mem G w ([(b13, .cells #[.int .i64 e.ver, .slice e.A e.n e.c] 54 (0, 0))] :: L :: [(g, tOb id cur last A i c 1 0 tdZ 0 0)] :: Ls) ∧ (bd = false ↔ (checkE e.ver e.ms = 0 ∧ ∀ a, 0 < i → es[i - 1]? = some a → a.ver < e.ver))) ?_ ?_
    · rcases Nat.eq_zero_or_pos i with rfl | hpos
      · repeat (first | refine VC.seq ?_ | refine VC.block ?_ | refine VC.skip ?_)
        refine VC.loud (Kept G ([(b13, .cells #[.int .i64 e.ver, .slice e.A e.n e.c] 54 (0, 0))] :: [])) [1] rfl (by kernel_rfl) (Kept.one hm.drew 0 rfl) ?_
        replace hm := hm.drew
        refine VL.read rfl rfl rfl (fun w' hw' => r_loadAgg (vs := [.int .i64 e.ver, .slice e.A e.n e.c]) Try.isAgg54 Try.sizeOf54 rfl (hw'.at_ 0 0 rfl) rfl (agg_at rfl)) ?_
        refine VL.call rfl rfl rfl (r_call1 Try.call24 rfl) (check_c hm (Nat.le_trans hok.2.1 hok.2.2) hok.1) ?_
        rintro _ w ⟨rfl, hm⟩
        refine ⟨Kept.one hm 0 rfl, ?_⟩
        refine VL.pure rfl rfl rfl (p_ne rfl rfl) ?_
        refine VL.pure rfl rfl rfl (p_moveB rfl) ?_
        refine VL.splitD 70 rfl (fun q3 => ?_) (fun q3 => ?_)
        refine VL.pass rfl rfl ?_
        refine VL.pass rfl rfl ?_
        refine VL.pass rfl rfl ?_
        refine VL.pass rfl rfl ?_
        refine VL.pass rfl rfl ?_
        refine VL.pass rfl rfl ?_
        refine VL.pass rfl rfl ?_
        refine VL.pass rfl rfl ?_
        refine VL.pass rfl rfl ?_
        refine VL.pass rfl rfl ?_
        refine VL.pass rfl rfl ?_
        refine VL.pass rfl rfl ?_
        refine VL.pass rfl rfl ?_
        refine VL.pure rfl rfl rfl (p_pickT rfl rfl) ?_
        refine VL.nil ?_
        rotate_left 1
        refine VL.pureG rfl rfl rfl (p_moveI rfl) ?_
        refine VL.pureG rfl rfl rfl (p_gt rfl rfl) ?_
        refine VL.pureG rfl rfl rfl (p_moveB rfl) ?_
        refine VL.knownF 73 rfl rfl ?_
        refine VL.pass rfl rfl ?_
        refine VL.pass rfl rfl ?_
        refine VL.pass rfl rfl ?_
        refine VL.pass rfl rfl ?_
        refine VL.pass rfl rfl ?_
        refine VL.pass rfl rfl ?_
        refine VL.pass rfl rfl ?_
        refine VL.pass rfl rfl ?_
        refine VL.pass rfl rfl ?_
        refine VL.pureG rfl rfl rfl (p_pickF rfl rfl) ?_
        refine VL.pure rfl rfl rfl (p_pickF rfl rfl) ?_
        refine VL.nil ?_
        rotate_left 1
        · repeat (first | refine VC.seq ?_ | refine VC.block ?_ | refine VC.skip ?_)
          exact ⟨true, ⟨rfl, rfl, rfl, rfl, rfl, rfl, rfl, rfl, rfl, trivial⟩, hm, ⟨fun h => (by cases h), fun h => absurd h.1 q3⟩⟩
        · repeat (first | refine VC.seq ?_ | refine VC.block ?_ | refine VC.skip ?_)
          exact ⟨false, ⟨rfl, rfl, rfl, rfl, rfl, rfl, rfl, rfl, rfl, trivial⟩, hm, ⟨fun _ => ⟨Classical.not_not.1 q3, fun a h => by omega⟩, fun _ => rfl⟩⟩
      · obtain ⟨e1, he1, _⟩ := get_of (xs := es) (k := i - 1) (by omega)
        have hver : blk[off + (i - 1) * 2 + 0]? = some (.int .i64 e1.ver) := hcc (i - 1) e1 he1 0 (by decide)
        repeat (first | refine VC.seq ?_ | refine VC.block ?_ | refine VC.skip ?_)
        refine VC.loud (Kept G ([(b13, .cells #[.int .i64 e.ver, .slice e.A e.n e.c] 54 (0, 0))] :: [])) [1] rfl (by kernel_rfl) (Kept.one hm.drew 0 rfl) ?_
        replace hm := hm.drew
        refine VL.read rfl rfl rfl (fun w' hw' => r_loadAgg (vs := [.int .i64 e.ver, .slice e.A e.n e.c]) Try.isAgg54 Try.sizeOf54 rfl (hw'.at_ 0 0 rfl) rfl (agg_at rfl)) ?_
        refine VL.call rfl rfl rfl (r_call1 Try.call24 rfl) (check_c hm (Nat.le_trans hok.2.1 hok.2.2) hok.1) ?_
        rintro _ w ⟨rfl, hm⟩
        refine ⟨Kept.one hm 0 rfl, ?_⟩
        refine VL.pure rfl rfl rfl (p_ne rfl rfl) ?_
        refine VL.pure rfl rfl rfl (p_moveB rfl) ?_
        refine VL.splitD 70 rfl (fun q3 => ?_) (fun q3 => ?_)
        refine VL.pass rfl rfl ?_
        refine VL.pass rfl rfl ?_
        refine VL.pass rfl rfl ?_
        refine VL.pass rfl rfl ?_
        refine VL.pass rfl rfl ?_
        refine VL.pass rfl rfl ?_
        refine VL.pass rfl rfl ?_
        refine VL.pass rfl rfl ?_
        refine VL.pass rfl rfl ?_
        refine VL.pass rfl rfl ?_
        refine VL.pass rfl rfl ?_
        refine VL.pass rfl rfl ?_
        refine VL.pass rfl rfl ?_
        refine VL.pure rfl rfl rfl (p_pickT rfl rfl) ?_
        refine VL.nil ?_
        rotate_left 1
        refine VL.pureG rfl rfl rfl (p_moveI rfl) ?_
        refine VL.pureG rfl rfl rfl (p_gt rfl rfl) ?_
        refine VL.pureG rfl rfl rfl (p_moveB rfl) ?_
        refine VL.knownT 73 rfl (decide_eq_true (by omega)) ?_
        refine VL.pureG rfl rfl rfl (p_field (fo := 0) Try.underlying54 rfl Try.sizeOf22 rfl rfl rfl) ?_
        refine VL.readG rfl rfl rfl (fun w' hw' => r_load (v := .int _ _) Try.isAgg22 rfl (hw'.at_ 0 0 rfl) rfl) ?_
        refine VL.pureG rfl rfl rfl (p_moveL rfl) ?_
        refine VL.pureG rfl rfl rfl (p_moveI rfl) ?_
        refine VL.pureG rfl rfl rfl (p_sub64E (r := ((i - 1 : Nat) : Int)) rfl rfl (by omega) (by omega)) ?_
        refine VL.pureG rfl rfl rfl (p_idxN Try.underlying23 Try.sizeOf54 rfl rfl (show i - 1 < n0 by omega)) ?_
        refine VL.pureG rfl rfl rfl (p_field (fo := 0) Try.underlying54 rfl Try.sizeOf22 rfl rfl rfl) ?_
        refine VL.readG rfl rfl rfl (fun w' hw' => r_load (v := .int _ _) Try.isAgg22 rfl (hw'.fix _ _ hb) hver) ?_
        refine VL.pureG rfl rfl rfl (p_le rfl rfl) ?_
        refine VL.pureG rfl rfl rfl (p_pickT rfl rfl) ?_
        refine VL.pure rfl rfl rfl (p_pickF rfl rfl) ?_
        refine VL.nil ?_
        rotate_left 1
        · repeat (first | refine VC.seq ?_ | refine VC.block ?_ | refine VC.skip ?_)
          exact ⟨true, ⟨rfl, rfl, rfl, rfl, rfl, rfl, rfl, rfl, rfl, trivial⟩, hm, ⟨fun h => (by cases h), fun h => absurd h.1 q3⟩⟩
        · repeat (first | refine VC.seq ?_ | refine VC.block ?_ | refine VC.skip ?_)
          refine ⟨_, ⟨rfl, rfl, rfl, rfl, rfl, rfl, rfl, rfl, rfl, trivial⟩, hm, ⟨fun h => ⟨Classical.not_not.1 q3, fun a _ ha => ?_⟩, fun h => ?_⟩⟩
          · rw [he1] at ha
            obtain rfl := Option.some.inj ha
            have := of_decide_eq_false h
            omega
          · have := h.2 e1 hpos he1
            exact decide_eq_false (by omega)
    clear hm
    rintro bd A6 w ⟨hm, hbd⟩
    cases bd with
    | false =>
      have hgood := hbd.1 rfl
      repeat (first | refine VC.seq ?_ | refine VC.block ?_ | refine VC.skip ?_)
      refine VC.condF rfl rfl ?_
      repeat (first | refine VC.seq ?_ | refine VC.block ?_ | refine VC.skip ?_)
      refine VC.region ?_
      refine VR.pure rfl rfl (p_field (fo := 1) Try.underlying54 rfl Try.sizeOf40 rfl rfl rfl) ?_
      refine VR.val rfl rfl (r_load (v := .slice _ _ _) Try.isAgg40 rfl (hm.at_ 0 0 rfl) rfl) ?_
      refine VR.call rfl rfl (r_call1 Try.call25 rfl) (clone_c hm hen hok.1) ?_
      rintro _ w ⟨A7, c7, L7, rfl, ho7, hm⟩
      refine VR.pure rfl rfl (p_field (fo := 1) Try.underlying54 rfl Try.sizeOf40 rfl rfl rfl) ?_
      refine VR.store (cs' := #[.int .i64 e.ver, .slice A7 e.n c7]) (v := .slice _ _ _) Try.sizeOf40 rfl rfl rfl rfl rfl hm 1 0 rfl (Nat.ble_eq.mp rfl) rfl ?_
      intro w hm
      refine VR.nil ?_
      obtain ⟨G2, hu2, hm, h7⟩ := hm.freeze
      repeat (first | refine VC.seq ?_ | refine VC.block ?_ | refine VC.skip ?_)
      refine VC.meet (σ := Option Addr × Nat × Blks) (fun s => [(0, .int .i64 id), (1, .int .i64 acc), (4, .slice (some ⟨b, off, none⟩) n0 c0), (11, .pointer (some ⟨g, 0, none⟩)), (60, .slice (some ⟨b, off, none⟩) n0 c0), (61, .int .i64 n0), (62, .int .i64 i)])
        (fun s w => Mem G2 w (s.2.2 :: [(g, tOb id cur last s.1 (i + 1) s.2.1 1 0 tdZ 0 0)] :: Ls) ∧ OwnS 54 2 s.1 (i + 1) s.2.1 (ecells os ++ [.int .i64 e.ver, .slice A7 e.n c7]) s.2.2) ?_ ?_
      · repeat (first | refine VC.seq ?_ | refine VC.block ?_ | refine VC.skip ?_)
        refine VC.free (Kept G2 ([(b13, .cells #[.int .i64 e.ver, .slice A7 e.n c7] 54 (0, 0))] :: [])) [4, 6, 7, 10] rfl (by kernel_rfl) (Kept.in4 hm.drew) ?_
        replace hm := hm.drew
        refine VD.pure 0 rfl (by kernel_rfl) rfl rfl (p_moveP rfl) ?_
        refine VD.pure 1 rfl (by kernel_rfl) rfl rfl (p_moveP rfl) ?_
        refine VD.pure 2 rfl (by kernel_rfl) rfl rfl (p_nilCheck rfl) ?_
        refine VD.pure 3 rfl (by kernel_rfl) rfl rfl (p_field (fo := 3) Try.underlying47 rfl Try.sizeOf23 rfl rfl rfl) ?_
        refine VD.read 5 rfl (by kernel_rfl) rfl rfl (fun w' hw' => r_loadAgg (vs := [.int .i64 e.ver, .slice A7 e.n c7]) Try.isAgg54 Try.sizeOf54 rfl (hw'.at_ 0 0 rfl) rfl (agg_at rfl)) ?_
        refine VD.turn2 4 6 (by kernel_rfl) ?_ ?_
        refine VDT.val rfl rfl rfl (r_load (v := .slice _ _ _) Try.isAgg23 rfl (hm.at_ 2 0 rfl) rfl) (Kept.in4 hm) ?_
        refine VD.turn1 6 (by kernel_rfl) ?_
        refine VDT.new hm rfl rfl rfl (n_buildSlice (vs := [.agg _]) Try.underlying23 inf54 rfl rfl rfl rfl rfl rfl) (fun b' w' hm' => Kept.in4 hm') ?_
        intro b95 w hm
        replace hm := hm.pull 2 rfl
        refine VD.turn1 7 (by kernel_rfl) ?_
        refine VDT.append (s := 2) (bytes := 32) Try.underlying23 inf54 rfl rfl rfl rfl rfl rfl rfl rfl rfl rfl hm ho (Row.lit (cs := [.int .i64 e.ver, .slice A7 e.n c7]) (hm.at_ 1 0 rfl)) (ecells_one [⟨e.ver, A7, e.n, c7, e.ms⟩]) rfl ⟨by unfold maxLen; omega, by omega⟩ (fun A' c' w' L' ho' hm' => Kept.in4 hm') ?_
        intro A3 c3 w L3 ho3 hm
        refine VD.pure 8 rfl (by kernel_rfl) rfl rfl (p_nilCheck rfl) ?_
        refine VD.pure 9 rfl (by kernel_rfl) rfl rfl (p_field (fo := 3) Try.underlying47 rfl Try.sizeOf23 rfl rfl rfl) ?_
        refine VD.turn1 10 (by kernel_rfl) ?_
        refine VDT.store (cs' := (tcl id cur last A3 (i + 1) c3 1 0 tdZ 0 0)) (v := .slice _ _ _) Try.sizeOf23 rfl rfl rfl rfl rfl rfl hm 3 0 rfl (Nat.ble_eq.mp rfl) rfl (fun w' hm' => Kept.in4 hm') ?_
        intro w hm
        refine VD.nil (by kernel_rfl) rfl ?_
        rotate_left 1
        refine VDT.new hm rfl rfl rfl (n_buildSlice (vs := [.agg _]) Try.underlying23 inf54 rfl rfl rfl rfl rfl rfl) (fun b' w' hm' => Kept.in4 hm') ?_
        intro b95 w hm
        refine VD.turn1 4 (by kernel_rfl) ?_
        refine VDT.val rfl rfl rfl (r_load (v := .slice _ _ _) Try.isAgg23 rfl (hm.at_ 3 0 rfl) rfl) (Kept.in4 hm) ?_
        replace hm := hm.pull 2 rfl
        refine VD.turn1 7 (by kernel_rfl) ?_
        refine VDT.append (s := 2) (bytes := 32) Try.underlying23 inf54 rfl rfl rfl rfl rfl rfl rfl rfl rfl rfl hm ho (Row.lit (cs := [.int .i64 e.ver, .slice A7 e.n c7]) (hm.at_ 1 0 rfl)) (ecells_one [⟨e.ver, A7, e.n, c7, e.ms⟩]) rfl ⟨by unfold maxLen; omega, by omega⟩ (fun A' c' w' L' ho' hm' => Kept.in4 hm') ?_
        intro A3 c3 w L3 ho3 hm
        refine VD.pure 8 rfl (by kernel_rfl) rfl rfl (p_nilCheck rfl) ?_
        refine VD.pure 9 rfl (by kernel_rfl) rfl rfl (p_field (fo := 3) Try.underlying47 rfl Try.sizeOf23 rfl rfl rfl) ?_
        refine VD.turn1 10 (by kernel_rfl) ?_
        refine VDT.store (cs' := (tcl id cur last A3 (i + 1) c3 1 0 tdZ 0 0)) (v := .slice _ _ _) Try.sizeOf23 rfl rfl rfl rfl rfl rfl hm 3 0 rfl (Nat.ble_eq.mp rfl) rfl (fun w' hm' => Kept.in4 hm') ?_
        intro w hm
        refine VD.nil (by kernel_rfl) rfl ?_
        rotate_left 1
        all_goals exact ⟨(A3, c3, L3), ⟨rfl, rfl, rfl, rfl, rfl, rfl, rfl, trivial⟩, hm.pop2.pop2, ho3⟩
      clear hm ho
      rintro ⟨A8, c8, L8⟩ A9 w ⟨hm, ho⟩
      dsimp only at hm ho ⊢
      repeat (first | refine VC.seq ?_ | refine VC.block ?_ | refine VC.skip ?_)
      refine VC.region ?_
      refine VR.pure rfl rfl (p_add64 rfl rfl (by omega)) ?_
      refine VR.pure rfl rfl (p_moveI rfl) ?_
      refine VR.nil ?_
      refine ⟨(i + 1, A8, c8, os ++ [⟨e.ver, A7, e.n, c7, e.ms⟩], L8), ⟨rfl, rfl, rfl, rfl, rfl, rfl, rfl, trivial⟩, ⟨by show i + 1 ≤ n0; omega, G2, hu.trans hu2, hm, ?_, fun o hx => ?_, ?_, fun x hx => ?_, fun j a b hj ha hb' => ?_⟩, by show n0 - (i + 1) < n0 - i; omega⟩
      · show OwnS 54 2 A8 (i + 1) c8 (ecells (os ++ [⟨e.ver, A7, e.n, c7, e.ms⟩])) L8
        unfold ecells
        rw [List.flatMap_append]
        exact ho
      · rcases List.mem_append.1 hx with hx | hx
        · exact (hoks o hx).mono hu2.heap
        · obtain rfl := List.mem_singleton.1 hx
          exact ⟨ho7.row h7, ho7.le⟩
      · show (os ++ [_]).map En.abs = (es.take (i + 1)).map En.abs
        rw [htk, List.map_append, List.map_append, habs]
        rfl
      · replace hx : x ∈ es.take (i + 1) := hx
        rw [htk] at hx
        rcases List.mem_append.1 hx with hx | hx
        · exact hchk x hx
        · rw [List.mem_singleton.1 hx]
          exact hgood.1
      · by_cases hji : j + 1 = i
        · subst hji
          rw [he] at hb'
          obtain rfl := Option.some.inj hb'
          exact hgood.2 a (by omega) ha
        · exact hrise j a b (by dsimp only at hj; omega) ha hb'
    | true =>
      have hgood : ¬ (checkE e.ver e.ms = 0 ∧ ∀ a, 0 < i → es[i - 1]? = some a → a.ver < e.ver) := fun h => by have := hbd.2 h; cases this
      repeat (first | refine VC.seq ?_ | refine VC.block ?_ | refine VC.skip ?_)
      refine VC.condT rfl rfl ?_
      repeat (first | refine VC.seq ?_ | refine VC.block ?_ | refine VC.skip ?_)
      refine VC.region ?_
      refine VR.pure rfl rfl (p_assignP rfl) ?_
      refine VR.nil ?_
      repeat (first | refine VC.seq ?_ | refine VC.block ?_ | refine VC.skip ?_)
      refine VC.ret ⟨_, ResOf.r1 (v := .pointer _) rfl rfl, ?_⟩
      refine .inr ⟨fun h => ?_, rfl, (hm.pop.pop.pop).shrink hu⟩
      obtain ⟨k1, k2, k3, k4, k5, k6, k7⟩ := h
      refine hgood ⟨k6 e hem, fun a hpos ha => ?_⟩
      exact k7 (i - 1) a e ha (by rw [show i - 1 + 1 = i by omega]; exact he)
  · repeat (first | refine VC.seq ?_ | refine VC.block ?_ | refine VC.skip ?_)
    refine VC.exit ?_
    obtain rfl : i = n0 := by omega
    rw [List.take_of_length_le (by omega)] at habs hchk
    obtain ⟨G1, hu1, hm, h7⟩ := hm.freeze
    have hu01 := hu.trans hu1
    have hok : NewOk id acc cur last es := ⟨Classical.not_not.1 q3, by omega, by omega, by omega, by omega, hchk, fun j a b ha hb => hrise j a b (by have := (List.getElem?_eq_some_iff.1 hb).1; omega) ha hb⟩
    have hrow : ERow G1.heap A i os := ⟨ho.row h7, fun o hx => (hoks o hx).mono hu1.heap⟩
    have hidb := hok.cid
    obtain ⟨kid, rfl, hk8⟩ : ∃ q : Nat, id = q ∧ q < 8 := ⟨id.toNat, by omega, by omega⟩
    have hle := ho.le
    clear ho hrise hchk
    repeat (first | refine VC.seq ?_ | refine VC.block ?_ | refine VC.skip ?_)
    refine VC.region ?_
    refine VR.pure rfl rfl (p_moveI rfl) ?_
    refine VR.nil ?_
    repeat (first | refine VC.seq ?_ | refine VC.block ?_ | refine VC.skip ?_)
    refine VC.loop (σ := Nat) (fun k => [(0, .int .i64 kid), (1, .int .i64 acc), (11, .pointer (some ⟨g, 0, none⟩)), (100, .int .i64 k)])
      (fun k w => Mem G1 w ([(g, tOb kid cur last A i c 1 0 (tdK k) 0 0)] :: Ls) ∧ k ≤ 8) (fun k => 8 - k) 0 ⟨rfl, rfl, rfl, rfl, trivial⟩ ⟨by rw [tdK_zero]; exact hm, by omega⟩ ?_
    clear hm
    rintro k A6 w ⟨hm, hk⟩
    repeat (first | refine VC.seq ?_ | refine VC.block ?_ | refine VC.skip ?_)
    refine VC.region ?_
    refine VR.pure rfl rfl (p_lt rfl rfl) ?_
    refine VR.nil ?_
    repeat (first | refine VC.seq ?_ | refine VC.block ?_ | refine VC.skip ?_)
    refine VC.condD rfl (fun hk2 => ?_) (fun hk2 => ?_)
    · have hk7 : k < 8 := by omega
      have hst := ts_ack (id := kid) (cur := cur) (last := last) (A := A) (n := i) (c := c) (stage := 1) (ep := 0) (td := tdK k) (prop := 0) (com := 0) (-1) k hk7
      rw [tdK_step] at hst
      repeat (first | refine VC.seq ?_ | refine VC.block ?_ | refine VC.skip ?_)
      repeat (first | refine VC.seq ?_ | refine VC.block ?_ | refine VC.skip ?_)
      refine VC.region ?_
      refine VR.pure rfl rfl (p_moveI rfl) ?_
      refine VR.pure rfl rfl (p_assignI rfl) ?_
      refine VR.nil ?_
      repeat (first | refine VC.seq ?_ | refine VC.block ?_ | refine VC.skip ?_)
      refine VC.region ?_
      refine VR.pure rfl rfl (p_moveP rfl) ?_
      refine VR.pure rfl rfl (p_moveI rfl) ?_
      refine VR.pure rfl rfl (p_nilCheck rfl) ?_
      refine VR.pure rfl rfl (p_field (fo := 6) Try.underlying47 rfl Try.sizeOf45 rfl rfl rfl) ?_
      refine VR.pure rfl rfl (p_idxA Try.underlying45 Try.sizeOf44 rfl rfl hk7) ?_
      refine VR.pure rfl rfl (p_field (fo := 4) Try.underlying44 rfl Try.sizeOf22 rfl rfl rfl) ?_
      refine VR.store (cs' := (tcl kid cur last A i c 1 0 (tdK (k + 1)) 0 0)) (v := .int _ _) Try.sizeOf22 rfl rfl rfl rfl rfl hm 0 0 rfl (by show 0 + 6 + k * 5 + 4 + 1 ≤ 48; omega) hst ?_
      intro w hm
      refine VR.nil ?_
      repeat (first | refine VC.seq ?_ | refine VC.block ?_ | refine VC.skip ?_)
      repeat (first | refine VC.seq ?_ | refine VC.block ?_ | refine VC.skip ?_)
      refine VC.region ?_
      refine VR.pure rfl rfl (p_add64 rfl rfl (by omega)) ?_
      refine VR.pure rfl rfl (p_moveI rfl) ?_
      refine VR.nil ?_
      exact ⟨k + 1, ⟨rfl, rfl, rfl, rfl, trivial⟩, ⟨hm, by omega⟩, by omega⟩
    · repeat (first | refine VC.seq ?_ | refine VC.block ?_ | refine VC.skip ?_)
      refine VC.exit ?_
      obtain rfl : k = 8 := by omega
      have hst1 := ts_info (id := kid) (cur := cur) (last := last) (A := A) (n := i) (c := c) (stage := 1) (ep := 0) (td := tdK 8) (prop := 0) (com := 0) true kid hk8
      have hst2 := ts_acc (id := kid) (cur := cur) (last := last) (A := A) (n := i) (c := c) (stage := 1) (ep := 0) (td := updT (tdK 8) kid { tdK 8 kid with info := true }) (prop := 0) (com := 0) acc kid hk8
      have htdN : updT (updT (tdK 8) kid { tdK 8 kid with info := true }) kid { updT (tdK 8) kid { tdK 8 kid with info := true } kid with acc := acc } = tdN kid acc := funext fun j => by
        unfold tdN updT
        by_cases e : j = kid
        · subst e
          rw [if_pos rfl, if_pos rfl]
          unfold tdK
          rw [if_pos rfl, if_pos hk8]
        · rw [if_neg e, if_neg e, if_neg e]
      rw [htdN] at hst2
      repeat (first | refine VC.seq ?_ | refine VC.block ?_ | refine VC.skip ?_)
      refine VC.loud (Kept G1 []) [9, 14] rfl (by kernel_rfl) (Kept.of0 hm.drew) ?_
      replace hm := hm.drew
      refine VL.pure rfl rfl rfl (p_moveP rfl) ?_
      refine VL.pure rfl rfl rfl (p_moveI rfl) ?_
      refine VL.pure rfl rfl rfl (p_moveP rfl) ?_
      refine VL.pure rfl rfl rfl (p_moveI rfl) ?_
      refine VL.pure rfl rfl rfl (p_moveI rfl) ?_
      refine VL.pure rfl rfl rfl (p_nilCheck rfl) ?_
      refine VL.pure rfl rfl rfl (p_field (fo := 6) Try.underlying47 rfl Try.sizeOf45 rfl rfl rfl) ?_
      refine VL.pure rfl rfl rfl (p_idxA Try.underlying45 Try.sizeOf44 rfl rfl hk8) ?_
      refine VL.pure rfl rfl rfl (p_field (fo := 0) Try.underlying44 rfl Try.sizeOf4 rfl rfl rfl) ?_
      refine VL.store (cs' := (tcl kid cur last A i c 1 0 (updT (tdK 8) kid { tdK 8 kid with info := true }) 0 0)) (v := .bool _) Try.sizeOf4 rfl rfl rfl rfl rfl rfl hm 0 0 rfl (by show 0 + 6 + kid * 5 + 0 + 1 ≤ 48; omega) hst1 (fun w' hm' => Kept.of0 hm') ?_
      intro w hm
      refine VL.pure rfl rfl rfl (p_nilCheck rfl) ?_
      refine VL.pure rfl rfl rfl (p_field (fo := 6) Try.underlying47 rfl Try.sizeOf45 rfl rfl rfl) ?_
      refine VL.pure rfl rfl rfl (p_idxA Try.underlying45 Try.sizeOf44 rfl rfl hk8) ?_
      refine VL.pure rfl rfl rfl (p_field (fo := 1) Try.underlying44 rfl Try.sizeOf3 rfl rfl rfl) ?_
      refine VL.store (cs' := (tcl kid cur last A i c 1 0 (tdN kid acc) 0 0)) (v := .int _ _) Try.sizeOf3 rfl rfl rfl rfl rfl rfl hm 0 0 rfl (by show 0 + 6 + kid * 5 + 1 + 1 ≤ 48; omega) hst2 (fun w' hm' => Kept.of0 hm') ?_
      intro w hm
      refine VL.nil ?_
      repeat (first | refine VC.seq ?_ | refine VC.block ?_ | refine VC.skip ?_)
      refine VC.region ?_
      refine VR.pure rfl rfl (p_moveP rfl) ?_
      refine VR.call rfl rfl (r_call1 Try.call26 rfl) (on_c (T0 := ⟨kid, cur, last, A, i, c, os, 1, 0, tdN kid acc, 0, 0⟩) hm ⟨hrow, by show 1 ≤ i; omega, hle.1, hle.2, hidb, tdN_acc (by omega)⟩ (by show (1 : Int) ≤ 4; omega)) ?_
      rintro _ w ⟨T', hab, hT', hm⟩
      refine VR.nil ?_
      repeat (first | refine VC.seq ?_ | refine VC.block ?_ | refine VC.skip ?_)
      refine VC.region ?_
      refine VR.pure rfl rfl (p_moveP rfl) ?_
      refine VR.pure rfl rfl (p_assignP rfl) ?_
      refine VR.nil ?_
      repeat (first | refine VC.seq ?_ | refine VC.block ?_ | refine VC.skip ?_)
      refine VC.ret ⟨_, ResOf.r1 (v := .pointer _) rfl rfl, ?_⟩
      refine .inl ⟨hok, g, T', G1, rfl, hu01, hT', ?_, hm⟩
      rw [hab]
      unfold Tb.abs newA
      dsimp only
      rw [habs]
      rfl
end
end Go.Bd
