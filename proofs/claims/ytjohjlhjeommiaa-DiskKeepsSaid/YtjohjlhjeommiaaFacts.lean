/- Rows of the table of types, and no more. Conditions: none. -/
import Derived.Test.YtjohjlhjeommiaaRows
import Derived.KernelRfl
import Derived.Laws.Tables
namespace Go.Bd
open Go.Proofs
theorem inf2 : Try.prog.info? 2 = some Try.t2 := by kernel_rfl
theorem inf3 : Try.prog.info? 3 = some Try.t3 := by kernel_rfl
theorem inf5 : Try.prog.info? 5 = some Try.t5 := by kernel_rfl
theorem inf9 : Try.prog.info? 9 = some Try.t9 := by kernel_rfl
theorem inf22 : Try.prog.info? 22 = some Try.t22 := by kernel_rfl
theorem inf36 : Try.prog.info? 36 = some Try.t36 := by kernel_rfl
theorem inf112 : Try.prog.info? 112 = some Try.t112 := by kernel_rfl
theorem inf119 : Try.prog.info? 119 = some Try.t119 := by kernel_rfl
theorem inf155 : Try.prog.info? 155 = some Try.t155 := by kernel_rfl
theorem inf156 : Try.prog.info? 156 = some Try.t156 := by kernel_rfl
theorem inf157 : Try.prog.info? 157 = some Try.t157 := by kernel_rfl
theorem inf159 : Try.prog.info? 159 = some Try.t159 := by kernel_rfl
theorem inf160 : Try.prog.info? 160 = some Try.t160 := by kernel_rfl
theorem inf161 : Try.prog.info? 161 = some Try.t161 := by kernel_rfl
theorem inf164 : Try.prog.info? 164 = some Try.t164 := by kernel_rfl
theorem inf166 : Try.prog.info? 166 = some Try.t166 := by kernel_rfl
theorem inf168 : Try.prog.info? 168 = some Try.t168 := by kernel_rfl
theorem inf171 : Try.prog.info? 171 = some Try.t171 := by kernel_rfl
theorem inf174 : Try.prog.info? 174 = some Try.t174 := by kernel_rfl
theorem inf177 : Try.prog.info? 177 = some Try.t177 := by kernel_rfl
theorem inf181 : Try.prog.info? 181 = some Try.t181 := by kernel_rfl
theorem inf184 : Try.prog.info? 184 = some Try.t184 := by kernel_rfl
theorem inf186 : Try.prog.info? 186 = some Try.t186 := by kernel_rfl
theorem inf188 : Try.prog.info? 188 = some Try.t188 := by kernel_rfl
theorem inf192 : Try.prog.info? 192 = some Try.t192 := by kernel_rfl
theorem inf195 : Try.prog.info? 195 = some Try.t195 := by kernel_rfl
theorem inf197 : Try.prog.info? 197 = some Try.t197 := by kernel_rfl
theorem inf200 : Try.prog.info? 200 = some Try.t200 := by kernel_rfl
theorem inf203 : Try.prog.info? 203 = some Try.t203 := by kernel_rfl
theorem inf205 : Try.prog.info? 205 = some Try.t205 := by kernel_rfl
theorem inf209 : Try.prog.info? 209 = some Try.t209 := by kernel_rfl
theorem inf212 : Try.prog.info? 212 = some Try.t212 := by kernel_rfl
theorem inf214 : Try.prog.info? 214 = some Try.t214 := by kernel_rfl
theorem inf217 : Try.prog.info? 217 = some Try.t217 := by kernel_rfl
theorem inf219 : Try.prog.info? 219 = some Try.t219 := by kernel_rfl
theorem inf222 : Try.prog.info? 222 = some Try.t222 := by kernel_rfl
theorem inf225 : Try.prog.info? 225 = some Try.t225 := by kernel_rfl
theorem inf228 : Try.prog.info? 228 = some Try.t228 := by kernel_rfl
theorem inf231 : Try.prog.info? 231 = some Try.t231 := by kernel_rfl
theorem inf234 : Try.prog.info? 234 = some Try.t234 := by kernel_rfl
theorem inf236 : Try.prog.info? 236 = some Try.t236 := by kernel_rfl
theorem bld63_0x  : Try.prog.built 63 [] = some #[.int .i64 0, .int .i64 0, .map none] := by kernel_rfl
theorem bld63_0_2 {a1 : Int} {a2 : Option Nat} : Try.prog.built 63 [(0, .int .i64 a1), (2, .map a2)] = some #[.int .i64 a1, .int .i64 0, .map a2] := by kernel_rfl
theorem bld68_0x  : Try.prog.built 68 [] = some #[.slice none 0 0, .int .i64 0] := by kernel_rfl
theorem bld63_0_1_2 {a1 : Int} {a2 : Int} {a3 : Option Nat} : Try.prog.built 63 [(0, .int .i64 a1), (1, .int .i64 a2), (2, .map a3)] = some #[.int .i64 a1, .int .i64 a2, .map a3] := by kernel_rfl
theorem bld68_0_1 {a1 : Option Addr} {a1n a1c : Nat} {a2 : Int} : Try.prog.built 68 [(0, .slice a1 a1n a1c), (1, .int .i64 a2)] = some #[.slice a1 a1n a1c, .int .i64 a2] := by kernel_rfl
theorem bld106_0x  : Try.prog.built 106 [] = some #[.slice none 0 0, .slice none 0 0, .slice none 0 0, .slice none 0 0, .slice none 0 0, .slice none 0 0, .slice none 0 0, .slice none 0 0, .slice none 0 0, .slice none 0 0, .slice none 0 0, .slice none 0 0, .slice none 0 0, .slice none 0 0, .slice none 0 0, .slice none 0 0, .slice none 0 0, .slice none 0 0, .slice none 0 0, .slice none 0 0] := by kernel_rfl
theorem bld109_0 {a1 : Int} : Try.prog.built 109 [(0, .int .i64 a1)] = some #[.int .i64 a1, .slice none 0 0] := by kernel_rfl
theorem bld109_0_1 {a1 : Int} {a2 : Option Addr} {a2n a2c : Nat} : Try.prog.built 109 [(0, .int .i64 a1), (1, .slice a2 a2n a2c)] = some #[.int .i64 a1, .slice a2 a2n a2c] := by kernel_rfl
theorem bld112_0_1 {a1 : ByteArray} {a2 : Option Addr} {a2n a2c : Nat} : Try.prog.built 112 [(0, .string a1), (1, .slice a2 a2n a2c)] = some #[.string a1, .slice a2 a2n a2c, .int .i64 0] := by kernel_rfl
theorem sih164 : Try.prog.stoodInHeld 164 = false := by kernel_rfl
theorem eqg164 : Try.prog.eqGuardType Try.prog.depth 164 = false := by kernel_rfl
theorem sih186 : Try.prog.stoodInHeld 186 = false := by kernel_rfl
theorem eqg186 : Try.prog.eqGuardType Try.prog.depth 186 = false := by kernel_rfl
theorem sih203 : Try.prog.stoodInHeld 203 = false := by kernel_rfl
theorem eqg203 : Try.prog.eqGuardType Try.prog.depth 203 = false := by kernel_rfl
theorem bld164_0 {a1 : Int} : Try.prog.built 164 [(0, .int .i64 a1)] = some #[.int .i64 a1, .int .u8 0, .int .i64 0, .int .i64 0] := by kernel_rfl
theorem bld168_0 {a1 : Int} : Try.prog.built 168 [(0, .int .i64 a1)] = some #[.int .i64 a1, .slice none 0 0] := by kernel_rfl
theorem bld174_0 {a1 : Int} : Try.prog.built 174 [(0, .int .i64 a1)] = some #[.int .i64 a1, .int .u8 0, .int .i64 0, .int .i64 0, .int .i64 0, .int .i64 0, .string ⟨#[]⟩, .slice none 0 0, .int .i64 0, .int .i64 0, .int .i64 0, .int .i64 0, .int .i64 0, .int .i64 0, .slice none 0 0, .slice none 0 0] := by kernel_rfl
theorem bld181_0 {a1 : ByteArray} : Try.prog.built 181 [(0, .string a1)] = some #[.string a1, .slice none 0 0, .int .i64 0, .int .i64 0, .int .i64 0, .int .i64 0, .int .i64 0, .int .i64 0, .int .i64 0, .int .i64 0, .int .i64 0, .int .i64 0] := by kernel_rfl
theorem sih179 : Try.prog.stoodInHeld 179 = false := by kernel_rfl
theorem eqg179 : Try.prog.eqGuardType Try.prog.depth 179 = false := by kernel_rfl
theorem bld186_2 {a1 : Int} : Try.prog.built 186 [(2, .int .i64 a1)] = some #[.int .i64 0, .int .i64 0, .int .i64 a1] := by kernel_rfl
theorem bld192_1 {a1 : Int} : Try.prog.built 192 [(1, .int .i64 a1)] = some #[.int .u8 0, .int .i64 a1, .int .i64 0, .int .i64 0, .string ⟨#[]⟩, .slice none 0 0, .int .i64 0, .int .i64 0, .bool false, .int .u8 0, .int .i64 0, .int .i64 0, .int .i64 0, .slice none 0 0, .slice none 0 0] := by kernel_rfl
theorem bld197_1 {a1 : Int} : Try.prog.built 197 [(1, .int .i64 a1)] = some #[.int .u8 0, .int .i64 a1, .int .i64 0, .int .i64 0, .int .i64 0, .int .i64 0, .string ⟨#[]⟩, .slice none 0 0, .int .i64 0, .int .i64 0, .int .i64 0, .int .i64 0, .int .i64 0, .int .i64 0, .int .i64 0, .int .i64 0, .int .i64 0, .int .i64 0, .slice none 0 0, .int .i64 0, .slice none 0 0, .slice none 0 0] := by kernel_rfl
theorem bld203_2 {a1 : ByteArray} : Try.prog.built 203 [(2, .string a1)] = some #[.int .u8 0, .int .u8 0, .string a1, .int .i64 0] := by kernel_rfl
theorem bld209_8 {a1 : Int} : Try.prog.built 209 [(8, .int .i64 a1)] = some #[.int .u8 0, .int .u8 0, .int .i64 0, .int .i64 0, .int .i64 0, .int .i64 0, .bool false, .int .i64 0, .int .i64 a1, .int .i64 0, .slice none 0 0, .slice none 0 0, .int .i64 0, .int .u8 0, .int .i64 0, .int .i64 0, .int .i64 0, .int .i64 0, .string ⟨#[]⟩, .slice none 0 0, .int .i64 0, .int .i64 0, .int .i64 0, .int .i64 0, .int .i64 0, .int .i64 0, .slice none 0 0, .slice none 0 0, .int .u8 0, .int .i64 0, .int .i64 0, .int .i64 0, .string ⟨#[]⟩, .slice none 0 0, .int .i64 0, .int .i64 0, .bool false, .int .u8 0, .int .i64 0, .int .i64 0, .int .i64 0, .slice none 0 0, .slice none 0 0] := by kernel_rfl
theorem bld214_2 {a1 : Int} : Try.prog.built 214 [(2, .int .i64 a1)] = some #[.int .i64 0, .int .i64 0, .int .i64 a1, .int .i64 0, .slice none 0 0] := by kernel_rfl
theorem bld219_0 {a1 : Int} : Try.prog.built 219 [(0, .int .i64 a1)] = some #[.int .i64 a1, .slice none 0 0] := by kernel_rfl
theorem bld225_1 {a1 : Int} : Try.prog.built 225 [(1, .int .i64 a1)] = some #[.int .u8 0, .int .i64 a1, .int .i64 0, .int .i64 0, .int .u8 0, .int .i64 0, .int .i64 0, .int .i64 0, .string ⟨#[]⟩, .slice none 0 0, .int .i64 0, .int .i64 0, .bool false, .int .u8 0, .int .i64 0, .int .i64 0, .int .i64 0, .slice none 0 0, .slice none 0 0] := by kernel_rfl
theorem bld231_1 {a1 : Int} : Try.prog.built 231 [(1, .int .i64 a1)] = some #[.int .u8 0, .int .i64 a1, .int .i64 0, .int .i64 0, .int .i64 0, .int .u8 0, .int .u8 0, .int .i64 0, .int .i64 0, .int .i64 0, .string ⟨#[]⟩, .slice none 0 0, .int .i64 0, .int .i64 0, .bool false, .int .u8 0, .int .i64 0, .int .i64 0, .int .i64 0, .slice none 0 0, .slice none 0 0, .int .u8 0, .int .i64 0, .int .i64 0, .int .i64 0, .int .i64 0, .int .i64 0, .string ⟨#[]⟩, .slice none 0 0, .int .i64 0, .int .i64 0, .int .i64 0, .int .i64 0, .int .i64 0, .int .i64 0, .int .i64 0, .int .i64 0, .int .i64 0, .int .i64 0, .slice none 0 0, .int .i64 0, .slice none 0 0, .slice none 0 0, .int .u8 0, .int .u8 0, .string ⟨#[]⟩, .int .i64 0, .int .i64 0, .int .u8 0, .int .i64 0, .int .i64 0, .int .i64 0, .int .i64 0, .string ⟨#[]⟩, .slice none 0 0, .int .i64 0, .int .i64 0, .int .i64 0, .int .i64 0, .int .i64 0, .int .i64 0, .slice none 0 0, .slice none 0 0] := by kernel_rfl
theorem bld236_3 {a1 : Int} : Try.prog.built 236 [(3, .int .i64 a1)] = some #[.slice none 0 0, .int .i64 0, .int .i64 0, .int .i64 a1] := by kernel_rfl
end Go.Bd
