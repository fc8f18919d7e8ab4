/- Texts held against each other. Conditions: none; nothing here speaks of one program. -/
import Derived.Test.YtnakbhpgcngofaaApart
namespace Go.Bd
set_option linter.unusedVariables false

section
variable {P : Program} {f : Fr} {dst : Option Tmp} {ty : TypeId} {pos : String} {after : Array Edge} {g : Option (Nat × Bool)}

theorem p_eqS {t t' : TypeId} {x y : Operand} {a b : ByteArray} (hx : f.ev x = .string a) (hy : f.ev y = .string b) :
    Pure P f ⟨dst, .binOp .eql t x y t', ty, pos, after, g⟩ (.bool (decide (a.toList = b.toList))) := fun w => by
  have he : (eqGuard .eql t x y (.string a) (.string b)).run P w = .ok () w := by simp [eqGuard]
  have h2 : (a.toList == b.toList) = decide (a.toList = b.toList) := by
    cases h : a.toList == b.toList with
    | true => exact (decide_eq_true (eq_of_beq h)).symm
    | false => exact (decide_eq_false (fun e => by rw [e, beq_self_eq_true] at h; cases h)).symm
  simp [execOp, hx, hy, he, binOp, Op.stringOp, h2]
theorem p_neS {t t' : TypeId} {x y : Operand} {a b : ByteArray} (hx : f.ev x = .string a) (hy : f.ev y = .string b) :
    Pure P f ⟨dst, .binOp .neq t x y t', ty, pos, after, g⟩ (.bool (decide (a.toList ≠ b.toList))) := fun w => by
  have he : (eqGuard .neq t x y (.string a) (.string b)).run P w = .ok () w := by simp [eqGuard]
  have h2 : (a.toList == b.toList) = decide (a.toList = b.toList) := by
    cases h : a.toList == b.toList with
    | true => exact (decide_eq_true (eq_of_beq h)).symm
    | false => exact (decide_eq_false (fun e => by rw [e, beq_self_eq_true] at h; cases h)).symm
  simp [execOp, hx, hy, he, binOp, Op.stringOp, h2]
end
end Go.Bd
