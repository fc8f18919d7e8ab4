/- Rows of the table of types, and no more. Conditions: none. -/
import Derived.Test.YtinddgigjecofaaRows
import Derived.KernelRfl
import Derived.Laws.Tables
namespace Go.Bd
open Go.Proofs
theorem inf2 : Try.prog.info? 2 = some Try.t2 := by kernel_rfl
theorem inf3 : Try.prog.info? 3 = some Try.t3 := by kernel_rfl
theorem inf5 : Try.prog.info? 5 = some Try.t5 := by kernel_rfl
theorem inf9 : Try.prog.info? 9 = some Try.t9 := by kernel_rfl
theorem inf22 : Try.prog.info? 22 = some Try.t22 := by kernel_rfl
theorem inf23 : Try.prog.info? 23 = some Try.t23 := by kernel_rfl
theorem inf25 : Try.prog.info? 25 = some Try.t25 := by kernel_rfl
theorem inf27 : Try.prog.info? 27 = some Try.t27 := by kernel_rfl
theorem inf29 : Try.prog.info? 29 = some Try.t29 := by kernel_rfl
theorem inf31 : Try.prog.info? 31 = some Try.t31 := by kernel_rfl
theorem inf33 : Try.prog.info? 33 = some Try.t33 := by kernel_rfl
theorem inf54 : Try.prog.info? 54 = some Try.t54 := by kernel_rfl
theorem inf65 : Try.prog.info? 65 = some Try.t65 := by kernel_rfl
theorem inf121 : Try.prog.info? 121 = some Try.t121 := by kernel_rfl
theorem inf123 : Try.prog.info? 123 = some Try.t123 := by kernel_rfl
theorem inf124 : Try.prog.info? 124 = some Try.t124 := by kernel_rfl
theorem inf125 : Try.prog.info? 125 = some Try.t125 := by kernel_rfl
theorem inf127 : Try.prog.info? 127 = some Try.t127 := by kernel_rfl
theorem inf128 : Try.prog.info? 128 = some Try.t128 := by kernel_rfl
theorem inf131 : Try.prog.info? 131 = some Try.t131 := by kernel_rfl
theorem inf134 : Try.prog.info? 134 = some Try.t134 := by kernel_rfl
theorem inf138 : Try.prog.info? 138 = some Try.t138 := by kernel_rfl
theorem inf141 : Try.prog.info? 141 = some Try.t141 := by kernel_rfl
theorem inf143 : Try.prog.info? 143 = some Try.t143 := by kernel_rfl
theorem inf145 : Try.prog.info? 145 = some Try.t145 := by kernel_rfl
theorem inf147 : Try.prog.info? 147 = some Try.t147 := by kernel_rfl
theorem inf150 : Try.prog.info? 150 = some Try.t150 := by kernel_rfl
theorem inf153 : Try.prog.info? 153 = some Try.t153 := by kernel_rfl
theorem inf155 : Try.prog.info? 155 = some Try.t155 := by kernel_rfl
theorem inf159 : Try.prog.info? 159 = some Try.t159 := by kernel_rfl
theorem inf162 : Try.prog.info? 162 = some Try.t162 := by kernel_rfl
theorem inf164 : Try.prog.info? 164 = some Try.t164 := by kernel_rfl
theorem inf167 : Try.prog.info? 167 = some Try.t167 := by kernel_rfl
theorem inf169 : Try.prog.info? 169 = some Try.t169 := by kernel_rfl
theorem inf172 : Try.prog.info? 172 = some Try.t172 := by kernel_rfl
theorem inf175 : Try.prog.info? 175 = some Try.t175 := by kernel_rfl
theorem inf178 : Try.prog.info? 178 = some Try.t178 := by kernel_rfl
theorem inf181 : Try.prog.info? 181 = some Try.t181 := by kernel_rfl
theorem inf184 : Try.prog.info? 184 = some Try.t184 := by kernel_rfl
theorem inf186 : Try.prog.info? 186 = some Try.t186 := by kernel_rfl
theorem bld25_0_1 {a1 : Int} {a2 : Option Addr} {a2n a2c : Nat} : Try.prog.built 25 [(0, .int .i64 a1), (1, .slice a2 a2n a2c)] = some #[.int .i64 a1, .slice a2 a2n a2c] := by kernel_rfl
theorem bld31_13 {a1 : Option Addr} {a1n a1c : Nat} : Try.prog.built 31 [(13, .slice a1 a1n a1c)] = some #[.int .u8 0, .int .i64 0, .int .i64 0, .int .i64 0, .string ⟨#[]⟩, .slice none 0 0, .int .i64 0, .int .i64 0, .bool false, .int .u8 0, .int .i64 0, .int .i64 0, .int .i64 0, .slice a1 a1n a1c, .slice none 0 0] := by kernel_rfl
theorem bld31_12_13 {a1 : Int} {a2 : Option Addr} {a2n a2c : Nat} : Try.prog.built 31 [(12, .int .i64 a1), (13, .slice a2 a2n a2c)] = some #[.int .u8 0, .int .i64 0, .int .i64 0, .int .i64 0, .string ⟨#[]⟩, .slice none 0 0, .int .i64 0, .int .i64 0, .bool false, .int .u8 0, .int .i64 0, .int .i64 0, .int .i64 a1, .slice a2 a2n a2c, .slice none 0 0] := by kernel_rfl
theorem bld25_0x  : Try.prog.built 25 [] = some #[.int .i64 0, .slice none 0 0] := by kernel_rfl
theorem bld25_0 {a1 : Int} : Try.prog.built 25 [(0, .int .i64 a1)] = some #[.int .i64 a1, .slice none 0 0] := by kernel_rfl
theorem bld25_1 {a1 : Option Addr} {a1n a1c : Nat} : Try.prog.built 25 [(1, .slice a1 a1n a1c)] = some #[.int .i64 0, .slice a1 a1n a1c] := by kernel_rfl
theorem bld31_12 {a1 : Int} : Try.prog.built 31 [(12, .int .i64 a1)] = some #[.int .u8 0, .int .i64 0, .int .i64 0, .int .i64 0, .string ⟨#[]⟩, .slice none 0 0, .int .i64 0, .int .i64 0, .bool false, .int .u8 0, .int .i64 0, .int .i64 0, .int .i64 a1, .slice none 0 0, .slice none 0 0] := by kernel_rfl
theorem bld31_0x  : Try.prog.built 31 [] = some #[.int .u8 0, .int .i64 0, .int .i64 0, .int .i64 0, .string ⟨#[]⟩, .slice none 0 0, .int .i64 0, .int .i64 0, .bool false, .int .u8 0, .int .i64 0, .int .i64 0, .int .i64 0, .slice none 0 0, .slice none 0 0] := by kernel_rfl
theorem bld93_0x  : Try.prog.built 93 [] = some #[.slice none 0 0, .slice none 0 0, .slice none 0 0, .slice none 0 0, .slice none 0 0, .slice none 0 0, .slice none 0 0, .slice none 0 0, .slice none 0 0, .slice none 0 0, .slice none 0 0, .slice none 0 0, .slice none 0 0, .slice none 0 0, .slice none 0 0, .slice none 0 0, .slice none 0 0, .slice none 0 0, .slice none 0 0, .slice none 0 0] := by kernel_rfl
theorem bld65_0_1_2 {a1 : Int} {a2 : Int} {a3 : Int} : Try.prog.built 65 [(0, .int .i64 a1), (1, .int .u8 a2), (2, .int .i64 a3)] = some #[.int .i64 a1, .int .u8 a2, .int .i64 a3, .int .i64 0] := by kernel_rfl
theorem sih65 : Try.prog.stoodInHeld 65 = false := by kernel_rfl
theorem eqg65 : Try.prog.eqGuardType Try.prog.depth 65 = false := by kernel_rfl
theorem bld65_0 {a1 : Int} : Try.prog.built 65 [(0, .int .i64 a1)] = some #[.int .i64 a1, .int .u8 0, .int .i64 0, .int .i64 0] := by kernel_rfl
theorem bld31_1 {a1 : Int} : Try.prog.built 31 [(1, .int .i64 a1)] = some #[.int .u8 0, .int .i64 a1, .int .i64 0, .int .i64 0, .string ⟨#[]⟩, .slice none 0 0, .int .i64 0, .int .i64 0, .bool false, .int .u8 0, .int .i64 0, .int .i64 0, .int .i64 0, .slice none 0 0, .slice none 0 0] := by kernel_rfl
theorem sih143 : Try.prog.stoodInHeld 143 = false := by kernel_rfl
theorem eqg143 : Try.prog.eqGuardType Try.prog.depth 143 = false := by kernel_rfl
theorem sih153 : Try.prog.stoodInHeld 153 = false := by kernel_rfl
theorem eqg153 : Try.prog.eqGuardType Try.prog.depth 153 = false := by kernel_rfl
theorem bld131_0 {a1 : Int} : Try.prog.built 131 [(0, .int .i64 a1)] = some #[.int .i64 a1, .int .u8 0, .int .i64 0, .int .i64 0, .int .i64 0, .int .i64 0, .string ⟨#[]⟩, .slice none 0 0, .int .i64 0, .int .i64 0, .int .i64 0, .int .i64 0, .int .i64 0, .int .i64 0, .slice none 0 0, .slice none 0 0] := by kernel_rfl
theorem bld138_0 {a1 : ByteArray} : Try.prog.built 138 [(0, .string a1)] = some #[.string a1, .slice none 0 0, .int .i64 0, .int .i64 0, .int .i64 0, .int .i64 0, .int .i64 0, .int .i64 0, .int .i64 0, .int .i64 0, .int .i64 0, .int .i64 0] := by kernel_rfl
theorem sih136 : Try.prog.stoodInHeld 136 = false := by kernel_rfl
theorem eqg136 : Try.prog.eqGuardType Try.prog.depth 136 = false := by kernel_rfl
theorem bld143_2 {a1 : Int} : Try.prog.built 143 [(2, .int .i64 a1)] = some #[.int .i64 0, .int .i64 0, .int .i64 a1] := by kernel_rfl
theorem bld147_1 {a1 : Int} : Try.prog.built 147 [(1, .int .i64 a1)] = some #[.int .u8 0, .int .i64 a1, .int .i64 0, .int .i64 0, .int .i64 0, .int .i64 0, .string ⟨#[]⟩, .slice none 0 0, .int .i64 0, .int .i64 0, .int .i64 0, .int .i64 0, .int .i64 0, .int .i64 0, .int .i64 0, .int .i64 0, .int .i64 0, .int .i64 0, .slice none 0 0, .int .i64 0, .slice none 0 0, .slice none 0 0] := by kernel_rfl
theorem bld153_2 {a1 : ByteArray} : Try.prog.built 153 [(2, .string a1)] = some #[.int .u8 0, .int .u8 0, .string a1, .int .i64 0] := by kernel_rfl
theorem bld159_8 {a1 : Int} : Try.prog.built 159 [(8, .int .i64 a1)] = some #[.int .u8 0, .int .u8 0, .int .i64 0, .int .i64 0, .int .i64 0, .int .i64 0, .bool false, .int .i64 0, .int .i64 a1, .int .i64 0, .slice none 0 0, .slice none 0 0, .int .i64 0, .int .u8 0, .int .i64 0, .int .i64 0, .int .i64 0, .int .i64 0, .string ⟨#[]⟩, .slice none 0 0, .int .i64 0, .int .i64 0, .int .i64 0, .int .i64 0, .int .i64 0, .int .i64 0, .slice none 0 0, .slice none 0 0, .int .u8 0, .int .i64 0, .int .i64 0, .int .i64 0, .string ⟨#[]⟩, .slice none 0 0, .int .i64 0, .int .i64 0, .bool false, .int .u8 0, .int .i64 0, .int .i64 0, .int .i64 0, .slice none 0 0, .slice none 0 0] := by kernel_rfl
theorem bld164_2 {a1 : Int} : Try.prog.built 164 [(2, .int .i64 a1)] = some #[.int .i64 0, .int .i64 0, .int .i64 a1, .int .i64 0, .slice none 0 0] := by kernel_rfl
theorem bld169_0 {a1 : Int} : Try.prog.built 169 [(0, .int .i64 a1)] = some #[.int .i64 a1, .slice none 0 0] := by kernel_rfl
theorem bld175_1 {a1 : Int} : Try.prog.built 175 [(1, .int .i64 a1)] = some #[.int .u8 0, .int .i64 a1, .int .i64 0, .int .i64 0, .int .u8 0, .int .i64 0, .int .i64 0, .int .i64 0, .string ⟨#[]⟩, .slice none 0 0, .int .i64 0, .int .i64 0, .bool false, .int .u8 0, .int .i64 0, .int .i64 0, .int .i64 0, .slice none 0 0, .slice none 0 0] := by kernel_rfl
theorem bld181_1 {a1 : Int} : Try.prog.built 181 [(1, .int .i64 a1)] = some #[.int .u8 0, .int .i64 a1, .int .i64 0, .int .i64 0, .int .i64 0, .int .u8 0, .int .u8 0, .int .i64 0, .int .i64 0, .int .i64 0, .string ⟨#[]⟩, .slice none 0 0, .int .i64 0, .int .i64 0, .bool false, .int .u8 0, .int .i64 0, .int .i64 0, .int .i64 0, .slice none 0 0, .slice none 0 0, .int .u8 0, .int .i64 0, .int .i64 0, .int .i64 0, .int .i64 0, .int .i64 0, .string ⟨#[]⟩, .slice none 0 0, .int .i64 0, .int .i64 0, .int .i64 0, .int .i64 0, .int .i64 0, .int .i64 0, .int .i64 0, .int .i64 0, .int .i64 0, .int .i64 0, .slice none 0 0, .int .i64 0, .slice none 0 0, .slice none 0 0, .int .u8 0, .int .u8 0, .string ⟨#[]⟩, .int .i64 0, .int .i64 0, .int .u8 0, .int .i64 0, .int .i64 0, .int .i64 0, .int .i64 0, .string ⟨#[]⟩, .slice none 0 0, .int .i64 0, .int .i64 0, .int .i64 0, .int .i64 0, .int .i64 0, .int .i64 0, .slice none 0 0, .slice none 0 0] := by kernel_rfl
theorem bld186_3 {a1 : Int} : Try.prog.built 186 [(3, .int .i64 a1)] = some #[.slice none 0 0, .int .i64 0, .int .i64 0, .int .i64 a1] := by kernel_rfl
end Go.Bd
