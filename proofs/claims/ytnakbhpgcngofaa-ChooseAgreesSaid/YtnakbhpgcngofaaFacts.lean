/- Rows of the table of types, and no more. Conditions: none. -/
import Derived.Test.YtnakbhpgcngofaaRows
import Derived.KernelRfl
import Derived.Laws.Tables
namespace Go.Bd
open Go.Proofs
theorem inf3 : Try.prog.info? 3 = some Try.t3 := by kernel_rfl
theorem inf27 : Try.prog.info? 27 = some Try.t27 := by kernel_rfl
theorem inf42 : Try.prog.info? 42 = some Try.t42 := by kernel_rfl
theorem inf52 : Try.prog.info? 52 = some Try.t52 := by kernel_rfl
theorem inf74 : Try.prog.info? 74 = some Try.t74 := by kernel_rfl
theorem inf99 : Try.prog.info? 99 = some Try.t99 := by kernel_rfl
theorem bld67_0x  : Try.prog.built 67 [] = some #[.int .i64 0, .int .i64 0, .int .i64 0, .int .i64 0, .slice none 0 0, .int .i64 0, .int .i64 0, .int .i64 0, .int .i64 0, .map none, .int .i64 0] := by kernel_rfl
theorem bld52_0x  : Try.prog.built 52 [] = some #[.int .u8 0, .int .u8 0, .int .i64 0, .int .i64 0, .int .i64 0, .int .i64 0, .bool false, .int .i64 0, .int .i64 0, .int .i64 0, .slice none 0 0, .slice none 0 0, .int .i64 0, .int .u8 0, .int .i64 0, .int .i64 0, .int .i64 0, .int .i64 0, .string ⟨#[]⟩, .slice none 0 0, .int .i64 0, .int .i64 0, .int .i64 0, .int .i64 0, .int .i64 0, .int .i64 0, .slice none 0 0, .slice none 0 0, .int .u8 0, .int .i64 0, .int .i64 0, .int .i64 0, .string ⟨#[]⟩, .slice none 0 0, .int .i64 0, .int .i64 0, .bool false, .int .u8 0, .int .i64 0, .int .i64 0, .int .i64 0, .slice none 0 0, .slice none 0 0] := by kernel_rfl
theorem bld67_0 {a1 : Int} : Try.prog.built 67 [(0, .int .i64 a1)] = some #[.int .i64 a1, .int .i64 0, .int .i64 0, .int .i64 0, .slice none 0 0, .int .i64 0, .int .i64 0, .int .i64 0, .int .i64 0, .map none, .int .i64 0] := by kernel_rfl
theorem bld87_0_1_2_3_4 {a1 : Int} {a2 : Int} {a3 : Int} {a4 : Option Addr} {a4n a4c : Nat} {a5 : Int} : Try.prog.built 87 [(0, .int .i64 a1), (1, .int .i64 a2), (2, .int .i64 a3), (3, .slice a4 a4n a4c), (4, .int .i64 a5)] = some #[.int .i64 a1, .int .i64 a2, .int .i64 a3, .slice a4 a4n a4c, .int .i64 a5, .int .i64 0, .int .i64 0, .int .i64 0, .int .i64 0, .int .i64 0, .int .i64 0, .int .i64 0, .int .i64 0, .int .i64 0, .int .i64 0, .int .i64 0, .int .i64 0, .int .i64 0, .int .i64 0, .int .i64 0, .int .i64 0, .int .i64 0, .int .i64 0, .int .i64 0, .int .i64 0, .int .i64 0, .int .i64 0, .int .i64 0, .int .i64 0, .int .i64 0, .int .i64 0, .int .i64 0, .bool false, .bool false, .bool false, .bool false, .bool false, .bool false, .bool false, .bool false, .int .i64 0] := by kernel_rfl
theorem bld64_0_1_2 {a1 : Int} {a2 : Int} {a3 : Int} : Try.prog.built 64 [(0, .int .i64 a1), (1, .int .i64 a2), (2, .int .i64 a3)] = some #[.int .i64 a1, .int .i64 a2, .int .i64 a3] := by kernel_rfl
theorem bld83_0_1_2 {a1 : Int} {a2 : Int} {a3 : Int} : Try.prog.built 83 [(0, .int .i64 a1), (1, .int .i64 a2), (2, .int .i64 a3)] = some #[.int .i64 a1, .int .i64 a2, .int .i64 a3] := by kernel_rfl
theorem sih64 : Try.prog.stoodInHeld 64 = false := by kernel_rfl
theorem eqg64 : Try.prog.eqGuardType Try.prog.depth 64 = false := by kernel_rfl
theorem sih83 : Try.prog.stoodInHeld 83 = false := by kernel_rfl
theorem eqg83 : Try.prog.eqGuardType Try.prog.depth 83 = false := by kernel_rfl
theorem bld52_0_1_2_3_4_7 {a1 : Int} {a2 : Int} {a3 : Int} {a4 : Int} {a5 : Int} {a6 : Int} : Try.prog.built 52 [(0, .int .u8 a1), (1, .int .u8 a2), (2, .int .i64 a3), (3, .int .i64 a4), (4, .int .i64 a5), (7, .int .i64 a6)] = some #[.int .u8 a1, .int .u8 a2, .int .i64 a3, .int .i64 a4, .int .i64 a5, .int .i64 0, .bool false, .int .i64 a6, .int .i64 0, .int .i64 0, .slice none 0 0, .slice none 0 0, .int .i64 0, .int .u8 0, .int .i64 0, .int .i64 0, .int .i64 0, .int .i64 0, .string ⟨#[]⟩, .slice none 0 0, .int .i64 0, .int .i64 0, .int .i64 0, .int .i64 0, .int .i64 0, .int .i64 0, .slice none 0 0, .slice none 0 0, .int .u8 0, .int .i64 0, .int .i64 0, .int .i64 0, .string ⟨#[]⟩, .slice none 0 0, .int .i64 0, .int .i64 0, .bool false, .int .u8 0, .int .i64 0, .int .i64 0, .int .i64 0, .slice none 0 0, .slice none 0 0] := by kernel_rfl
theorem bld99_0_1_2 {a1 : Int} {a2 : Int} {a3 : Int} : Try.prog.built 99 [(0, .int .i64 a1), (1, .int .u8 a2), (2, .int .i64 a3)] = some #[.int .i64 a1, .int .u8 a2, .int .i64 a3, .int .i64 0] := by kernel_rfl
theorem bld42_1 {a1 : Option Addr} {a1n a1c : Nat} : Try.prog.built 42 [(1, .slice a1 a1n a1c)] = some #[.int .i64 0, .slice a1 a1n a1c] := by kernel_rfl
theorem bld42_0 {a1 : Int} : Try.prog.built 42 [(0, .int .i64 a1)] = some #[.int .i64 a1, .slice none 0 0] := by kernel_rfl
theorem bld83_0x  : Try.prog.built 83 [] = some #[.int .i64 0, .int .i64 0, .int .i64 0] := by kernel_rfl
theorem bld84_0x  : Try.prog.built 84 [] = some #[.int .i64 0, .int .i64 0, .int .i64 0, .int .i64 0, .int .i64 0, .int .i64 0, .int .i64 0, .int .i64 0, .int .i64 0, .int .i64 0, .int .i64 0, .int .i64 0, .int .i64 0, .int .i64 0, .int .i64 0, .int .i64 0, .int .i64 0, .int .i64 0, .int .i64 0, .int .i64 0, .int .i64 0, .int .i64 0, .int .i64 0, .int .i64 0] := by kernel_rfl
theorem bld85_0x  : Try.prog.built 85 [] = some #[.bool false, .bool false, .bool false, .bool false, .bool false, .bool false, .bool false, .bool false] := by kernel_rfl
theorem bld64_0x  : Try.prog.built 64 [] = some #[.int .i64 0, .int .i64 0, .int .i64 0] := by kernel_rfl
theorem bld99_0x  : Try.prog.built 99 [] = some #[.int .i64 0, .int .u8 0, .int .i64 0, .int .i64 0] := by kernel_rfl
theorem sih99 : Try.prog.stoodInHeld 99 = false := by kernel_rfl
theorem eqg99 : Try.prog.eqGuardType Try.prog.depth 99 = false := by kernel_rfl
theorem bld99_0 {a1 : Int} : Try.prog.built 99 [(0, .int .i64 a1)] = some #[.int .i64 a1, .int .u8 0, .int .i64 0, .int .i64 0] := by kernel_rfl
end Go.Bd
