/- Rows of the table of types, and no more. Conditions: none. -/
import Derived.Test.YtknmjfdemfknaaaRows
import Derived.KernelRfl
import Derived.Laws.Tables
namespace Go.Bd
open Go.Proofs
theorem inf2 : Try.prog.info? 2 = some Try.t2 := by kernel_rfl
theorem inf3 : Try.prog.info? 3 = some Try.t3 := by kernel_rfl
theorem inf5 : Try.prog.info? 5 = some Try.t5 := by kernel_rfl
theorem inf9 : Try.prog.info? 9 = some Try.t9 := by kernel_rfl
theorem inf33 : Try.prog.info? 33 = some Try.t33 := by kernel_rfl
theorem inf57 : Try.prog.info? 57 = some Try.t57 := by kernel_rfl
theorem inf116 : Try.prog.info? 116 = some Try.t116 := by kernel_rfl
theorem inf117 : Try.prog.info? 117 = some Try.t117 := by kernel_rfl
theorem inf118 : Try.prog.info? 118 = some Try.t118 := by kernel_rfl
theorem inf119 : Try.prog.info? 119 = some Try.t119 := by kernel_rfl
theorem inf121 : Try.prog.info? 121 = some Try.t121 := by kernel_rfl
theorem inf123 : Try.prog.info? 123 = some Try.t123 := by kernel_rfl
theorem inf124 : Try.prog.info? 124 = some Try.t124 := by kernel_rfl
theorem inf125 : Try.prog.info? 125 = some Try.t125 := by kernel_rfl
theorem inf128 : Try.prog.info? 128 = some Try.t128 := by kernel_rfl
theorem inf130 : Try.prog.info? 130 = some Try.t130 := by kernel_rfl
theorem inf132 : Try.prog.info? 132 = some Try.t132 := by kernel_rfl
theorem inf135 : Try.prog.info? 135 = some Try.t135 := by kernel_rfl
theorem inf138 : Try.prog.info? 138 = some Try.t138 := by kernel_rfl
theorem inf141 : Try.prog.info? 141 = some Try.t141 := by kernel_rfl
theorem inf145 : Try.prog.info? 145 = some Try.t145 := by kernel_rfl
theorem inf148 : Try.prog.info? 148 = some Try.t148 := by kernel_rfl
theorem inf150 : Try.prog.info? 150 = some Try.t150 := by kernel_rfl
theorem inf152 : Try.prog.info? 152 = some Try.t152 := by kernel_rfl
theorem inf156 : Try.prog.info? 156 = some Try.t156 := by kernel_rfl
theorem inf159 : Try.prog.info? 159 = some Try.t159 := by kernel_rfl
theorem inf161 : Try.prog.info? 161 = some Try.t161 := by kernel_rfl
theorem inf164 : Try.prog.info? 164 = some Try.t164 := by kernel_rfl
theorem inf167 : Try.prog.info? 167 = some Try.t167 := by kernel_rfl
theorem inf169 : Try.prog.info? 169 = some Try.t169 := by kernel_rfl
theorem inf173 : Try.prog.info? 173 = some Try.t173 := by kernel_rfl
theorem inf176 : Try.prog.info? 176 = some Try.t176 := by kernel_rfl
theorem inf178 : Try.prog.info? 178 = some Try.t178 := by kernel_rfl
theorem inf181 : Try.prog.info? 181 = some Try.t181 := by kernel_rfl
theorem inf183 : Try.prog.info? 183 = some Try.t183 := by kernel_rfl
theorem inf186 : Try.prog.info? 186 = some Try.t186 := by kernel_rfl
theorem inf189 : Try.prog.info? 189 = some Try.t189 := by kernel_rfl
theorem inf192 : Try.prog.info? 192 = some Try.t192 := by kernel_rfl
theorem inf195 : Try.prog.info? 195 = some Try.t195 := by kernel_rfl
theorem inf198 : Try.prog.info? 198 = some Try.t198 := by kernel_rfl
theorem inf200 : Try.prog.info? 200 = some Try.t200 := by kernel_rfl
theorem bld48_0x  : Try.prog.built 48 [] = some #[.int .i64 0, .map none] := by kernel_rfl
theorem bld48_0_1 {a1 : Int} {a2 : Option Nat} : Try.prog.built 48 [(0, .int .i64 a1), (1, .map a2)] = some #[.int .i64 a1, .map a2] := by kernel_rfl
theorem bld55_0 {a1 : Int} : Try.prog.built 55 [(0, .int .i64 a1)] = some #[.int .i64 a1, .slice none 0 0] := by kernel_rfl
theorem bld79_0x  : Try.prog.built 79 [] = some #[.slice none 0 0, .slice none 0 0, .slice none 0 0, .slice none 0 0, .slice none 0 0, .slice none 0 0, .slice none 0 0, .slice none 0 0, .slice none 0 0, .slice none 0 0, .slice none 0 0, .slice none 0 0, .slice none 0 0, .slice none 0 0, .slice none 0 0, .slice none 0 0, .slice none 0 0, .slice none 0 0, .slice none 0 0, .slice none 0 0] := by kernel_rfl
theorem bld51_0_1 {a1 : Int} {a2 : Int} : Try.prog.built 51 [(0, .int .i64 a1), (1, .int .i64 a2)] = some #[.int .i64 a1, .int .i64 a2] := by kernel_rfl
theorem bld57_0_1_2 {a1 : Int} {a2 : Int} {a3 : Int} : Try.prog.built 57 [(0, .int .i64 a1), (1, .int .i64 a2), (2, .int .i64 a3)] = some #[.int .i64 a1, .int .i64 a2, .int .i64 a3] := by kernel_rfl
theorem sih128 : Try.prog.stoodInHeld 128 = false := by kernel_rfl
theorem eqg128 : Try.prog.eqGuardType Try.prog.depth 128 = false := by kernel_rfl
theorem sih150 : Try.prog.stoodInHeld 150 = false := by kernel_rfl
theorem eqg150 : Try.prog.eqGuardType Try.prog.depth 150 = false := by kernel_rfl
theorem sih167 : Try.prog.stoodInHeld 167 = false := by kernel_rfl
theorem eqg167 : Try.prog.eqGuardType Try.prog.depth 167 = false := by kernel_rfl
theorem bld128_0 {a1 : Int} : Try.prog.built 128 [(0, .int .i64 a1)] = some #[.int .i64 a1, .int .u8 0, .int .i64 0, .int .i64 0] := by kernel_rfl
theorem bld132_0 {a1 : Int} : Try.prog.built 132 [(0, .int .i64 a1)] = some #[.int .i64 a1, .slice none 0 0] := by kernel_rfl
theorem bld138_0 {a1 : Int} : Try.prog.built 138 [(0, .int .i64 a1)] = some #[.int .i64 a1, .int .u8 0, .int .i64 0, .int .i64 0, .int .i64 0, .int .i64 0, .string ⟨#[]⟩, .slice none 0 0, .int .i64 0, .int .i64 0, .int .i64 0, .int .i64 0, .int .i64 0, .int .i64 0, .slice none 0 0, .slice none 0 0] := by kernel_rfl
theorem bld145_0 {a1 : ByteArray} : Try.prog.built 145 [(0, .string a1)] = some #[.string a1, .slice none 0 0, .int .i64 0, .int .i64 0, .int .i64 0, .int .i64 0, .int .i64 0, .int .i64 0, .int .i64 0, .int .i64 0, .int .i64 0, .int .i64 0] := by kernel_rfl
theorem sih143 : Try.prog.stoodInHeld 143 = false := by kernel_rfl
theorem eqg143 : Try.prog.eqGuardType Try.prog.depth 143 = false := by kernel_rfl
theorem bld150_2 {a1 : Int} : Try.prog.built 150 [(2, .int .i64 a1)] = some #[.int .i64 0, .int .i64 0, .int .i64 a1] := by kernel_rfl
theorem bld156_1 {a1 : Int} : Try.prog.built 156 [(1, .int .i64 a1)] = some #[.int .u8 0, .int .i64 a1, .int .i64 0, .int .i64 0, .string ⟨#[]⟩, .slice none 0 0, .int .i64 0, .int .i64 0, .bool false, .int .u8 0, .int .i64 0, .int .i64 0, .int .i64 0, .slice none 0 0, .slice none 0 0] := by kernel_rfl
theorem bld161_1 {a1 : Int} : Try.prog.built 161 [(1, .int .i64 a1)] = some #[.int .u8 0, .int .i64 a1, .int .i64 0, .int .i64 0, .int .i64 0, .int .i64 0, .string ⟨#[]⟩, .slice none 0 0, .int .i64 0, .int .i64 0, .int .i64 0, .int .i64 0, .int .i64 0, .int .i64 0, .int .i64 0, .int .i64 0, .int .i64 0, .int .i64 0, .slice none 0 0, .int .i64 0, .slice none 0 0, .slice none 0 0] := by kernel_rfl
theorem bld167_2 {a1 : ByteArray} : Try.prog.built 167 [(2, .string a1)] = some #[.int .u8 0, .int .u8 0, .string a1, .int .i64 0] := by kernel_rfl
theorem bld173_8 {a1 : Int} : Try.prog.built 173 [(8, .int .i64 a1)] = some #[.int .u8 0, .int .u8 0, .int .i64 0, .int .i64 0, .int .i64 0, .int .i64 0, .bool false, .int .i64 0, .int .i64 a1, .int .i64 0, .slice none 0 0, .slice none 0 0, .int .i64 0, .int .u8 0, .int .i64 0, .int .i64 0, .int .i64 0, .int .i64 0, .string ⟨#[]⟩, .slice none 0 0, .int .i64 0, .int .i64 0, .int .i64 0, .int .i64 0, .int .i64 0, .int .i64 0, .slice none 0 0, .slice none 0 0, .int .u8 0, .int .i64 0, .int .i64 0, .int .i64 0, .string ⟨#[]⟩, .slice none 0 0, .int .i64 0, .int .i64 0, .bool false, .int .u8 0, .int .i64 0, .int .i64 0, .int .i64 0, .slice none 0 0, .slice none 0 0] := by kernel_rfl
theorem bld178_2 {a1 : Int} : Try.prog.built 178 [(2, .int .i64 a1)] = some #[.int .i64 0, .int .i64 0, .int .i64 a1, .int .i64 0, .slice none 0 0] := by kernel_rfl
theorem bld183_0 {a1 : Int} : Try.prog.built 183 [(0, .int .i64 a1)] = some #[.int .i64 a1, .slice none 0 0] := by kernel_rfl
theorem bld189_1 {a1 : Int} : Try.prog.built 189 [(1, .int .i64 a1)] = some #[.int .u8 0, .int .i64 a1, .int .i64 0, .int .i64 0, .int .u8 0, .int .i64 0, .int .i64 0, .int .i64 0, .string ⟨#[]⟩, .slice none 0 0, .int .i64 0, .int .i64 0, .bool false, .int .u8 0, .int .i64 0, .int .i64 0, .int .i64 0, .slice none 0 0, .slice none 0 0] := by kernel_rfl
theorem bld195_1 {a1 : Int} : Try.prog.built 195 [(1, .int .i64 a1)] = some #[.int .u8 0, .int .i64 a1, .int .i64 0, .int .i64 0, .int .i64 0, .int .u8 0, .int .u8 0, .int .i64 0, .int .i64 0, .int .i64 0, .string ⟨#[]⟩, .slice none 0 0, .int .i64 0, .int .i64 0, .bool false, .int .u8 0, .int .i64 0, .int .i64 0, .int .i64 0, .slice none 0 0, .slice none 0 0, .int .u8 0, .int .i64 0, .int .i64 0, .int .i64 0, .int .i64 0, .int .i64 0, .string ⟨#[]⟩, .slice none 0 0, .int .i64 0, .int .i64 0, .int .i64 0, .int .i64 0, .int .i64 0, .int .i64 0, .int .i64 0, .int .i64 0, .int .i64 0, .int .i64 0, .slice none 0 0, .int .i64 0, .slice none 0 0, .slice none 0 0, .int .u8 0, .int .u8 0, .string ⟨#[]⟩, .int .i64 0, .int .i64 0, .int .u8 0, .int .i64 0, .int .i64 0, .int .i64 0, .int .i64 0, .string ⟨#[]⟩, .slice none 0 0, .int .i64 0, .int .i64 0, .int .i64 0, .int .i64 0, .int .i64 0, .int .i64 0, .slice none 0 0, .slice none 0 0] := by kernel_rfl
theorem bld200_3 {a1 : Int} : Try.prog.built 200 [(3, .int .i64 a1)] = some #[.slice none 0 0, .int .i64 0, .int .i64 0, .int .i64 a1] := by kernel_rfl
end Go.Bd
