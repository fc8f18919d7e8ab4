/- Contracts of layer 23: a leader's table as it lies; zxids; quorums of those of which something holds. Conditions: as each states. -/
import Derived.Test.Ytjnplhmhkindpaa23u
import Derived.Test.Ytjnplhmhkindpaa23o
namespace Go.Bd
open Go.Proofs
set_option linter.unusedVariables false
set_option maxRecDepth 20000

/-- What a server has told. -/
structure Td where
  info : Bool
  acc : Int
  pr : Bool
  nw : Bool
  ack : Int
abbrev Td.cells (d : Td) : List Value := [.bool d.info, .int .i64 d.acc, .bool d.pr, .bool d.nw, .int .i64 d.ack]
abbrev tcl (id cur last : Int) (A : Option Addr) (n c : Nat) (stage ep : Int) (td : Nat → Td) (prop com : Int) : Array Value := #[.int .i64 id, .int .i64 cur, .int .i64 last, .slice A n c, .int .u8 stage, .int .i64 ep, .bool (td 0).info, .int .i64 (td 0).acc, .bool (td 0).pr, .bool (td 0).nw, .int .i64 (td 0).ack, .bool (td 1).info, .int .i64 (td 1).acc, .bool (td 1).pr, .bool (td 1).nw, .int .i64 (td 1).ack, .bool (td 2).info, .int .i64 (td 2).acc, .bool (td 2).pr, .bool (td 2).nw, .int .i64 (td 2).ack, .bool (td 3).info, .int .i64 (td 3).acc, .bool (td 3).pr, .bool (td 3).nw, .int .i64 (td 3).ack, .bool (td 4).info, .int .i64 (td 4).acc, .bool (td 4).pr, .bool (td 4).nw, .int .i64 (td 4).ack, .bool (td 5).info, .int .i64 (td 5).acc, .bool (td 5).pr, .bool (td 5).nw, .int .i64 (td 5).ack, .bool (td 6).info, .int .i64 (td 6).acc, .bool (td 6).pr, .bool (td 6).nw, .int .i64 (td 6).ack, .bool (td 7).info, .int .i64 (td 7).acc, .bool (td 7).pr, .bool (td 7).nw, .int .i64 (td 7).ack, .int .i64 prop, .int .i64 com]
abbrev tOb (id cur last : Int) (A : Option Addr) (n c : Nat) (stage ep : Int) (td : Nat → Td) (prop com : Int) : Obj := .cells (tcl id cur last A n c stage ep td prop com) 47 (0, 0)
abbrev told (td : Nat → Td) : List Value := [.bool (td 0).info, .int .i64 (td 0).acc, .bool (td 0).pr, .bool (td 0).nw, .int .i64 (td 0).ack, .bool (td 1).info, .int .i64 (td 1).acc, .bool (td 1).pr, .bool (td 1).nw, .int .i64 (td 1).ack, .bool (td 2).info, .int .i64 (td 2).acc, .bool (td 2).pr, .bool (td 2).nw, .int .i64 (td 2).ack, .bool (td 3).info, .int .i64 (td 3).acc, .bool (td 3).pr, .bool (td 3).nw, .int .i64 (td 3).ack, .bool (td 4).info, .int .i64 (td 4).acc, .bool (td 4).pr, .bool (td 4).nw, .int .i64 (td 4).ack, .bool (td 5).info, .int .i64 (td 5).acc, .bool (td 5).pr, .bool (td 5).nw, .int .i64 (td 5).ack, .bool (td 6).info, .int .i64 (td 6).acc, .bool (td 6).pr, .bool (td 6).nw, .int .i64 (td 6).ack, .bool (td 7).info, .int .i64 (td 7).acc, .bool (td 7).pr, .bool (td 7).nw, .int .i64 (td 7).ack]
def updT (td : Nat → Td) (k : Nat) (d : Td) : Nat → Td := fun i => if i = k then d else td i
section
variable {id cur last : Int} {A : Option Addr} {n c : Nat} {stage ep : Int} {td : Nat → Td} {prop com : Int}
theorem tc_info : ∀ (k : Nat), k < 8 → (tcl id cur last A n c stage ep td prop com)[0 + 6 + k * 5 + 0]? = some (.bool (td k).info)
  | 0, _ => rfl
  | 1, _ => rfl
  | 2, _ => rfl
  | 3, _ => rfl
  | 4, _ => rfl
  | 5, _ => rfl
  | 6, _ => rfl
  | 7, _ => rfl
theorem tc_acc : ∀ (k : Nat), k < 8 → (tcl id cur last A n c stage ep td prop com)[0 + 6 + k * 5 + 1]? = some (.int .i64 (td k).acc)
  | 0, _ => rfl
  | 1, _ => rfl
  | 2, _ => rfl
  | 3, _ => rfl
  | 4, _ => rfl
  | 5, _ => rfl
  | 6, _ => rfl
  | 7, _ => rfl
theorem tc_pr : ∀ (k : Nat), k < 8 → (tcl id cur last A n c stage ep td prop com)[0 + 6 + k * 5 + 2]? = some (.bool (td k).pr)
  | 0, _ => rfl
  | 1, _ => rfl
  | 2, _ => rfl
  | 3, _ => rfl
  | 4, _ => rfl
  | 5, _ => rfl
  | 6, _ => rfl
  | 7, _ => rfl
theorem tc_nw : ∀ (k : Nat), k < 8 → (tcl id cur last A n c stage ep td prop com)[0 + 6 + k * 5 + 3]? = some (.bool (td k).nw)
  | 0, _ => rfl
  | 1, _ => rfl
  | 2, _ => rfl
  | 3, _ => rfl
  | 4, _ => rfl
  | 5, _ => rfl
  | 6, _ => rfl
  | 7, _ => rfl
theorem tc_ack : ∀ (k : Nat), k < 8 → (tcl id cur last A n c stage ep td prop com)[0 + 6 + k * 5 + 4]? = some (.int .i64 (td k).ack)
  | 0, _ => rfl
  | 1, _ => rfl
  | 2, _ => rfl
  | 3, _ => rfl
  | 4, _ => rfl
  | 5, _ => rfl
  | 6, _ => rfl
  | 7, _ => rfl
theorem ts_info (b : Bool) : ∀ (k : Nat), k < 8 → lay (tcl id cur last A n c stage ep td prop com) (0 + 6 + k * 5 + 0) [.bool b] = tcl id cur last A n c stage ep (updT td k { td k with info := b }) prop com
  | 0, _ => by kernel_rfl
  | 1, _ => by kernel_rfl
  | 2, _ => by kernel_rfl
  | 3, _ => by kernel_rfl
  | 4, _ => by kernel_rfl
  | 5, _ => by kernel_rfl
  | 6, _ => by kernel_rfl
  | 7, _ => by kernel_rfl
theorem ts_acc (a : Int) : ∀ (k : Nat), k < 8 → lay (tcl id cur last A n c stage ep td prop com) (0 + 6 + k * 5 + 1) [.int .i64 a] = tcl id cur last A n c stage ep (updT td k { td k with acc := a }) prop com
  | 0, _ => by kernel_rfl
  | 1, _ => by kernel_rfl
  | 2, _ => by kernel_rfl
  | 3, _ => by kernel_rfl
  | 4, _ => by kernel_rfl
  | 5, _ => by kernel_rfl
  | 6, _ => by kernel_rfl
  | 7, _ => by kernel_rfl
theorem ts_pr (b : Bool) : ∀ (k : Nat), k < 8 → lay (tcl id cur last A n c stage ep td prop com) (0 + 6 + k * 5 + 2) [.bool b] = tcl id cur last A n c stage ep (updT td k { td k with pr := b }) prop com
  | 0, _ => by kernel_rfl
  | 1, _ => by kernel_rfl
  | 2, _ => by kernel_rfl
  | 3, _ => by kernel_rfl
  | 4, _ => by kernel_rfl
  | 5, _ => by kernel_rfl
  | 6, _ => by kernel_rfl
  | 7, _ => by kernel_rfl
theorem ts_nw (b : Bool) : ∀ (k : Nat), k < 8 → lay (tcl id cur last A n c stage ep td prop com) (0 + 6 + k * 5 + 3) [.bool b] = tcl id cur last A n c stage ep (updT td k { td k with nw := b }) prop com
  | 0, _ => by kernel_rfl
  | 1, _ => by kernel_rfl
  | 2, _ => by kernel_rfl
  | 3, _ => by kernel_rfl
  | 4, _ => by kernel_rfl
  | 5, _ => by kernel_rfl
  | 6, _ => by kernel_rfl
  | 7, _ => by kernel_rfl
theorem ts_ack (a : Int) : ∀ (k : Nat), k < 8 → lay (tcl id cur last A n c stage ep td prop com) (0 + 6 + k * 5 + 4) [.int .i64 a] = tcl id cur last A n c stage ep (updT td k { td k with ack := a }) prop com
  | 0, _ => by kernel_rfl
  | 1, _ => by kernel_rfl
  | 2, _ => by kernel_rfl
  | 3, _ => by kernel_rfl
  | 4, _ => by kernel_rfl
  | 5, _ => by kernel_rfl
  | 6, _ => by kernel_rfl
  | 7, _ => by kernel_rfl
theorem told_at : ∀ (k : Nat), k < 8 → (told td).toArray.extract (k * 5) (k * 5 + 5) = (td k).cells.toArray
  | 0, _ => by kernel_rfl
  | 1, _ => by kernel_rfl
  | 2, _ => by kernel_rfl
  | 3, _ => by kernel_rfl
  | 4, _ => by kernel_rfl
  | 5, _ => by kernel_rfl
  | 6, _ => by kernel_rfl
  | 7, _ => by kernel_rfl
end
section
variable {P : Program} {f : Fr} {dst : Option Tmp} {ty : TypeId} {pos : String} {after : Array Edge} {g : Option (Nat × Bool)}
/-- An element of an array's value. -/
theorem p_indexA {t e : TypeId} {x i : Operand} {cs vs : Array Value} {m s j : Nat} {k : IntKind} (ht : P.underlying t = some (.array m e)) (ha : ∀ w, (isAgg e).run P w = .ok true w) (hs : ∀ w, (sizeOf e).run P w = .ok s w)
    (hx : f.ev x = .agg cs) (hi : f.ev i = .int k (j : Int)) (h0 : j < m) (hv : cs.extract (j * s) (j * s + s) = vs) : Pure P f ⟨dst, .index t x i, ty, pos, after, g⟩ (.agg vs) := fun w => by
  have h1 : (0 : Int) ≤ (j : Int) ∧ (j : Int) < (m : Int) := by omega
  simp [execOp, hx, hi, Instr.index, run_underlying ht, asIntOf, h1, h0, hs, part, ha, hv]
end

section
variable {F : Env} {w : World} {Ls : List Blks}
theorem server_c {x : Int} : Calls Try.prog 22 #[.int .i64 x] w (Ret fun v w' => v = .bool (decide (1 ≤ x ∧ x ≤ 7)) ∧ w' = w) := by
  refine Calls.of_vc Try.func22 rfl Try.ntmps22 rfl ?_
  repeat (first | refine VC.seq ?_ | refine VC.block ?_ | refine VC.skip ?_)
  refine VC.region ?_
  refine VR.pure rfl rfl (p_assignB rfl) ?_
  refine VR.nil ?_
  repeat (first | refine VC.seq ?_ | refine VC.block ?_ | refine VC.skip ?_)
  refine VC.region ?_
  refine VR.pure rfl rfl (p_moveI rfl) ?_
  refine VR.pure rfl rfl (p_ge rfl rfl) ?_
  refine VR.pure rfl rfl (p_moveB rfl) ?_
  refine VR.splitD 5 rfl (fun q2 => ?_) (fun q2 => ?_)
  refine VR.pureG rfl rfl (p_moveI rfl) ?_
  refine VR.pureG rfl rfl (p_le rfl rfl) ?_
  refine VR.pure rfl rfl (p_pickT rfl rfl) ?_
  refine VR.pure rfl rfl (p_assignB rfl) ?_
  refine VR.nil ?_
  rotate_left 1
  refine VR.pass rfl rfl ?_
  refine VR.pass rfl rfl ?_
  refine VR.pure rfl rfl (p_pickF rfl rfl) ?_
  refine VR.pure rfl rfl (p_assignB rfl) ?_
  refine VR.nil ?_
  rotate_left 1
  · repeat (first | refine VC.seq ?_ | refine VC.block ?_ | refine VC.skip ?_)
    refine VC.ret ⟨_, ResOf.r1 (v := .bool _) rfl rfl, ?_⟩
    exact ⟨congrArg Value.bool (decide_eq_decide.2 (by omega)), rfl⟩
  · repeat (first | refine VC.seq ?_ | refine VC.block ?_ | refine VC.skip ?_)
    refine VC.ret ⟨_, ResOf.r1 (v := .bool _) rfl rfl, ?_⟩
    exact ⟨congrArg Value.bool (decide_eq_false (by omega)).symm, rfl⟩
theorem cInfo_c {d : Td} (hm : Mem F w Ls) : Calls Try.prog 38 #[.agg d.cells.toArray] w (Ret fun v w' => v = .bool d.info ∧ Mem F w' Ls) := by
  refine Calls.of_vc Try.func38 rfl Try.ntmps38 rfl ?_
  repeat (first | refine VC.seq ?_ | refine VC.block ?_ | refine VC.skip ?_)
  refine VC.region ?_
  refine VR.new hm rfl rfl (n_boxG rfl) ?_
  intro b2 w hm
  refine VR.pure rfl rfl (p_assignB rfl) ?_
  refine VR.nil ?_
  repeat (first | refine VC.seq ?_ | refine VC.block ?_ | refine VC.skip ?_)
  refine VC.region ?_
  refine VR.pure rfl rfl (p_field (fo := 0) Try.underlying44 rfl Try.sizeOf4 rfl rfl rfl) ?_
  refine VR.val rfl rfl (r_load (v := .bool _) Try.isAgg4 rfl (hm.at_ 0 0 rfl) rfl) ?_
  refine VR.pure rfl rfl (p_assignB rfl) ?_
  refine VR.nil ?_
  repeat (first | refine VC.seq ?_ | refine VC.block ?_ | refine VC.skip ?_)
  refine VC.ret ⟨_, ResOf.r1 (v := .bool _) rfl rfl, ?_⟩
  exact ⟨rfl, hm.pop⟩
theorem cPr_c {d : Td} (hm : Mem F w Ls) : Calls Try.prog 39 #[.agg d.cells.toArray] w (Ret fun v w' => v = .bool d.pr ∧ Mem F w' Ls) := by
  refine Calls.of_vc Try.func39 rfl Try.ntmps39 rfl ?_
  repeat (first | refine VC.seq ?_ | refine VC.block ?_ | refine VC.skip ?_)
  refine VC.region ?_
  refine VR.new hm rfl rfl (n_boxG rfl) ?_
  intro b2 w hm
  refine VR.pure rfl rfl (p_assignB rfl) ?_
  refine VR.nil ?_
  repeat (first | refine VC.seq ?_ | refine VC.block ?_ | refine VC.skip ?_)
  refine VC.region ?_
  refine VR.pure rfl rfl (p_field (fo := 2) Try.underlying44 rfl Try.sizeOf4 rfl rfl rfl) ?_
  refine VR.val rfl rfl (r_load (v := .bool _) Try.isAgg4 rfl (hm.at_ 0 0 rfl) rfl) ?_
  refine VR.pure rfl rfl (p_assignB rfl) ?_
  refine VR.nil ?_
  repeat (first | refine VC.seq ?_ | refine VC.block ?_ | refine VC.skip ?_)
  refine VC.ret ⟨_, ResOf.r1 (v := .bool _) rfl rfl, ?_⟩
  exact ⟨rfl, hm.pop⟩
theorem cNw_c {d : Td} (hm : Mem F w Ls) : Calls Try.prog 40 #[.agg d.cells.toArray] w (Ret fun v w' => v = .bool d.nw ∧ Mem F w' Ls) := by
  refine Calls.of_vc Try.func40 rfl Try.ntmps40 rfl ?_
  repeat (first | refine VC.seq ?_ | refine VC.block ?_ | refine VC.skip ?_)
  refine VC.region ?_
  refine VR.new hm rfl rfl (n_boxG rfl) ?_
  intro b2 w hm
  refine VR.pure rfl rfl (p_assignB rfl) ?_
  refine VR.nil ?_
  repeat (first | refine VC.seq ?_ | refine VC.block ?_ | refine VC.skip ?_)
  refine VC.region ?_
  refine VR.pure rfl rfl (p_field (fo := 3) Try.underlying44 rfl Try.sizeOf4 rfl rfl rfl) ?_
  refine VR.val rfl rfl (r_load (v := .bool _) Try.isAgg4 rfl (hm.at_ 0 0 rfl) rfl) ?_
  refine VR.pure rfl rfl (p_assignB rfl) ?_
  refine VR.nil ?_
  repeat (first | refine VC.seq ?_ | refine VC.block ?_ | refine VC.skip ?_)
  refine VC.ret ⟨_, ResOf.r1 (v := .bool _) rfl rfl, ?_⟩
  exact ⟨rfl, hm.pop⟩
theorem cAck_c {d : Td} {b : Nat} {z : Int} (hm : Mem F w Ls) (hb : F.heap b = some (.cells #[.int .i64 z] 22 (0, 0))) : Calls Try.prog 44 #[.agg d.cells.toArray, .pointer (some ⟨b, 0, none⟩)] w (Ret fun v w' => v = .bool (decide (z ≤ d.ack)) ∧ Mem F w' Ls) := by
  refine Calls.of_vc Try.func44 rfl Try.ntmps44 rfl ?_
  repeat (first | refine VC.seq ?_ | refine VC.block ?_ | refine VC.skip ?_)
  refine VC.region ?_
  refine VR.new hm rfl rfl (n_boxG rfl) ?_
  intro b2 w hm
  refine VR.pure rfl rfl (p_assignB rfl) ?_
  refine VR.nil ?_
  repeat (first | refine VC.seq ?_ | refine VC.block ?_ | refine VC.skip ?_)
  refine VC.region ?_
  refine VR.pure rfl rfl (p_field (fo := 4) Try.underlying44 rfl Try.sizeOf22 rfl rfl rfl) ?_
  refine VR.val rfl rfl (r_load (v := .int _ _) Try.isAgg22 rfl (hm.at_ 0 0 rfl) rfl) ?_
  refine VR.val rfl rfl (r_load (v := .int _ _) Try.isAgg22 rfl (hm.fix _ _ hb) rfl) ?_
  refine VR.pure rfl rfl (p_ge rfl rfl) ?_
  refine VR.pure rfl rfl (p_assignB rfl) ?_
  refine VR.nil ?_
  repeat (first | refine VC.seq ?_ | refine VC.block ?_ | refine VC.skip ?_)
  refine VC.ret ⟨_, ResOf.r1 (v := .bool _) rfl rfl, ?_⟩
  exact ⟨rfl, hm.pop⟩
end
end Go.Bd
