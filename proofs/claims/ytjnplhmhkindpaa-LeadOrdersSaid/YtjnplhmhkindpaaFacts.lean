/- Rows of the table of types, and no more. Conditions: none. -/
import Derived.Test.YtjnplhmhkindpaaRows
import Derived.KernelRfl
import Derived.Laws.Tables
namespace Go.Bd
open Go.Proofs
theorem inf3 : Try.prog.info? 3 = some Try.t3 := by kernel_rfl
theorem inf29 : Try.prog.info? 29 = some Try.t29 := by kernel_rfl
theorem inf32 : Try.prog.info? 32 = some Try.t32 := by kernel_rfl
theorem inf54 : Try.prog.info? 54 = some Try.t54 := by kernel_rfl
theorem inf64 : Try.prog.info? 64 = some Try.t64 := by kernel_rfl
theorem bld47_0x  : Try.prog.built 47 [] = some #[.int .i64 0, .int .i64 0, .int .i64 0, .slice none 0 0, .int .u8 0, .int .i64 0, .bool false, .int .i64 0, .bool false, .bool false, .int .i64 0, .bool false, .int .i64 0, .bool false, .bool false, .int .i64 0, .bool false, .int .i64 0, .bool false, .bool false, .int .i64 0, .bool false, .int .i64 0, .bool false, .bool false, .int .i64 0, .bool false, .int .i64 0, .bool false, .bool false, .int .i64 0, .bool false, .int .i64 0, .bool false, .bool false, .int .i64 0, .bool false, .int .i64 0, .bool false, .bool false, .int .i64 0, .bool false, .int .i64 0, .bool false, .bool false, .int .i64 0, .int .i64 0, .int .i64 0] := by kernel_rfl
theorem bld54_1 {a1 : Option Addr} {a1n a1c : Nat} : Try.prog.built 54 [(1, .slice a1 a1n a1c)] = some #[.int .i64 0, .slice a1 a1n a1c] := by kernel_rfl
theorem bld47_0_1_2_4 {a1 : Int} {a2 : Int} {a3 : Int} {a4 : Int} : Try.prog.built 47 [(0, .int .i64 a1), (1, .int .i64 a2), (2, .int .i64 a3), (4, .int .u8 a4)] = some #[.int .i64 a1, .int .i64 a2, .int .i64 a3, .slice none 0 0, .int .u8 a4, .int .i64 0, .bool false, .int .i64 0, .bool false, .bool false, .int .i64 0, .bool false, .int .i64 0, .bool false, .bool false, .int .i64 0, .bool false, .int .i64 0, .bool false, .bool false, .int .i64 0, .bool false, .int .i64 0, .bool false, .bool false, .int .i64 0, .bool false, .int .i64 0, .bool false, .bool false, .int .i64 0, .bool false, .int .i64 0, .bool false, .bool false, .int .i64 0, .bool false, .int .i64 0, .bool false, .bool false, .int .i64 0, .bool false, .int .i64 0, .bool false, .bool false, .int .i64 0, .int .i64 0, .int .i64 0] := by kernel_rfl
theorem bld64_0_1_2 {a1 : Int} {a2 : Int} {a3 : Int} : Try.prog.built 64 [(0, .int .i64 a1), (1, .int .u8 a2), (2, .int .i64 a3)] = some #[.int .i64 a1, .int .u8 a2, .int .i64 a3, .int .i64 0] := by kernel_rfl
theorem bld64_0x  : Try.prog.built 64 [] = some #[.int .i64 0, .int .u8 0, .int .i64 0, .int .i64 0] := by kernel_rfl
end Go.Bd
