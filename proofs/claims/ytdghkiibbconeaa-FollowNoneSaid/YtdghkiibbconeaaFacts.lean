/- Rows of the table of types, and no more. Conditions: none. -/
import Derived.Test.YtdghkiibbconeaaRows
import Derived.KernelRfl
import Derived.Laws.Tables
namespace Go.Bd
open Go.Proofs
theorem inf45 : Try.prog.info? 45 = some Try.t45 := by kernel_rfl
theorem bld48_0x  : Try.prog.built 48 [] = some #[.int .i64 0, .int .i64 0, .int .i64 0, .int .i64 0, .int .u8 0] := by kernel_rfl
theorem bld41_0_4 {a1 : Int} {a2 : Int} : Try.prog.built 41 [(0, .int .u8 a1), (4, .int .i64 a2)] = some #[.int .u8 a1, .int .u8 0, .int .i64 0, .int .i64 0, .int .i64 a2, .int .i64 0, .bool false, .int .i64 0, .int .i64 0, .int .i64 0, .slice none 0 0, .slice none 0 0, .int .i64 0, .int .u8 0, .int .i64 0, .int .i64 0, .int .i64 0, .int .i64 0, .string ⟨#[]⟩, .slice none 0 0, .int .i64 0, .int .i64 0, .int .i64 0, .int .i64 0, .int .i64 0, .int .i64 0, .slice none 0 0, .slice none 0 0, .int .u8 0, .int .i64 0, .int .i64 0, .int .i64 0, .string ⟨#[]⟩, .slice none 0 0, .int .i64 0, .int .i64 0, .bool false, .int .u8 0, .int .i64 0, .int .i64 0, .int .i64 0, .slice none 0 0, .slice none 0 0] := by kernel_rfl
theorem bld48_0_1_2_4 {a1 : Int} {a2 : Int} {a3 : Int} {a4 : Int} : Try.prog.built 48 [(0, .int .i64 a1), (1, .int .i64 a2), (2, .int .i64 a3), (4, .int .u8 a4)] = some #[.int .i64 a1, .int .i64 a2, .int .i64 a3, .int .i64 0, .int .u8 a4] := by kernel_rfl
end Go.Bd
