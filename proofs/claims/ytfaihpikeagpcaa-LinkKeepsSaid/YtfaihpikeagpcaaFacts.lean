/- Rows of the table of types, and no more. Conditions: none. -/
import Derived.Test.YtfaihpikeagpcaaRows
import Derived.KernelRfl
import Derived.Laws.Tables
namespace Go.Bd
open Go.Proofs
theorem inf2 : Try.prog.info? 2 = some Try.t2 := by kernel_rfl
theorem inf3 : Try.prog.info? 3 = some Try.t3 := by kernel_rfl
theorem inf5 : Try.prog.info? 5 = some Try.t5 := by kernel_rfl
theorem inf9 : Try.prog.info? 9 = some Try.t9 := by kernel_rfl
theorem inf22 : Try.prog.info? 22 = some Try.t22 := by kernel_rfl
theorem inf24 : Try.prog.info? 24 = some Try.t24 := by kernel_rfl
theorem inf42 : Try.prog.info? 42 = some Try.t42 := by kernel_rfl
theorem inf43 : Try.prog.info? 43 = some Try.t43 := by kernel_rfl
theorem inf44 : Try.prog.info? 44 = some Try.t44 := by kernel_rfl
theorem inf109 : Try.prog.info? 109 = some Try.t109 := by kernel_rfl
theorem inf110 : Try.prog.info? 110 = some Try.t110 := by kernel_rfl
theorem inf111 : Try.prog.info? 111 = some Try.t111 := by kernel_rfl
theorem inf112 : Try.prog.info? 112 = some Try.t112 := by kernel_rfl
theorem inf114 : Try.prog.info? 114 = some Try.t114 := by kernel_rfl
theorem inf115 : Try.prog.info? 115 = some Try.t115 := by kernel_rfl
theorem inf116 : Try.prog.info? 116 = some Try.t116 := by kernel_rfl
theorem inf119 : Try.prog.info? 119 = some Try.t119 := by kernel_rfl
theorem inf121 : Try.prog.info? 121 = some Try.t121 := by kernel_rfl
theorem inf123 : Try.prog.info? 123 = some Try.t123 := by kernel_rfl
theorem inf126 : Try.prog.info? 126 = some Try.t126 := by kernel_rfl
theorem inf129 : Try.prog.info? 129 = some Try.t129 := by kernel_rfl
theorem inf132 : Try.prog.info? 132 = some Try.t132 := by kernel_rfl
theorem inf136 : Try.prog.info? 136 = some Try.t136 := by kernel_rfl
theorem inf139 : Try.prog.info? 139 = some Try.t139 := by kernel_rfl
theorem inf141 : Try.prog.info? 141 = some Try.t141 := by kernel_rfl
theorem inf143 : Try.prog.info? 143 = some Try.t143 := by kernel_rfl
theorem inf147 : Try.prog.info? 147 = some Try.t147 := by kernel_rfl
theorem inf150 : Try.prog.info? 150 = some Try.t150 := by kernel_rfl
theorem inf152 : Try.prog.info? 152 = some Try.t152 := by kernel_rfl
theorem inf155 : Try.prog.info? 155 = some Try.t155 := by kernel_rfl
theorem inf158 : Try.prog.info? 158 = some Try.t158 := by kernel_rfl
theorem inf160 : Try.prog.info? 160 = some Try.t160 := by kernel_rfl
theorem inf164 : Try.prog.info? 164 = some Try.t164 := by kernel_rfl
theorem inf168 : Try.prog.info? 168 = some Try.t168 := by kernel_rfl
theorem inf170 : Try.prog.info? 170 = some Try.t170 := by kernel_rfl
theorem inf173 : Try.prog.info? 173 = some Try.t173 := by kernel_rfl
theorem inf176 : Try.prog.info? 176 = some Try.t176 := by kernel_rfl
theorem inf179 : Try.prog.info? 179 = some Try.t179 := by kernel_rfl
theorem inf182 : Try.prog.info? 182 = some Try.t182 := by kernel_rfl
theorem inf185 : Try.prog.info? 185 = some Try.t185 := by kernel_rfl
theorem inf187 : Try.prog.info? 187 = some Try.t187 := by kernel_rfl
theorem bld33_0x  : Try.prog.built 33 [] = some #[.int .i64 0, .int .i64 0, .int .i64 0, .int .i64 0, .slice none 0 0] := by kernel_rfl
theorem bld24_0x  : Try.prog.built 24 [] = some #[.int .i64 0, .int .i64 0, .int .i64 0, .int .i64 0, .slice none 0 0] := by kernel_rfl
theorem bld46_0 {a1 : Option Addr} : Try.prog.built 46 [(0, .pointer a1)] = some #[.pointer a1, .int .i64 0, .slice none 0 0, .slice none 0 0, .slice none 0 0] := by kernel_rfl
theorem bld46_0_1 {a1 : Option Addr} {a2 : Int} : Try.prog.built 46 [(0, .pointer a1), (1, .int .i64 a2)] = some #[.pointer a1, .int .i64 a2, .slice none 0 0, .slice none 0 0, .slice none 0 0] := by kernel_rfl
theorem bld31_0_3 {a1 : Int} {a2 : Option Addr} {a2n a2c : Nat} : Try.prog.built 31 [(0, .int .i64 a1), (3, .slice a2 a2n a2c)] = some #[.int .i64 a1, .int .i64 0, .int .i64 0, .slice a2 a2n a2c] := by kernel_rfl
theorem bld24_0_1_3 {a1 : Int} {a2 : Int} {a3 : Int} : Try.prog.built 24 [(0, .int .i64 a1), (1, .int .i64 a2), (3, .int .i64 a3)] = some #[.int .i64 a1, .int .i64 a2, .int .i64 0, .int .i64 a3, .slice none 0 0] := by kernel_rfl
theorem bld33_0 {a1 : Int} : Try.prog.built 33 [(0, .int .i64 a1)] = some #[.int .i64 a1, .int .i64 0, .int .i64 0, .int .i64 0, .slice none 0 0] := by kernel_rfl
theorem bld88_0x  : Try.prog.built 88 [] = some #[.slice none 0 0, .slice none 0 0, .slice none 0 0, .slice none 0 0, .slice none 0 0, .slice none 0 0, .slice none 0 0, .slice none 0 0, .slice none 0 0, .slice none 0 0, .slice none 0 0, .slice none 0 0, .slice none 0 0, .slice none 0 0, .slice none 0 0, .slice none 0 0, .slice none 0 0, .slice none 0 0, .slice none 0 0, .slice none 0 0] := by kernel_rfl
theorem bld65_0 {a1 : Int} : Try.prog.built 65 [(0, .int .i64 a1)] = some #[.int .i64 a1, .int .i64 0, .slice none 0 0, .int .i64 0, .int .i64 0] := by kernel_rfl
theorem sih119 : Try.prog.stoodInHeld 119 = false := by kernel_rfl
theorem eqg119 : Try.prog.eqGuardType Try.prog.depth 119 = false := by kernel_rfl
theorem sih141 : Try.prog.stoodInHeld 141 = false := by kernel_rfl
theorem eqg141 : Try.prog.eqGuardType Try.prog.depth 141 = false := by kernel_rfl
theorem sih158 : Try.prog.stoodInHeld 158 = false := by kernel_rfl
theorem eqg158 : Try.prog.eqGuardType Try.prog.depth 158 = false := by kernel_rfl
theorem bld119_0 {a1 : Int} : Try.prog.built 119 [(0, .int .i64 a1)] = some #[.int .i64 a1, .int .u8 0, .int .i64 0, .int .i64 0] := by kernel_rfl
theorem bld123_0 {a1 : Int} : Try.prog.built 123 [(0, .int .i64 a1)] = some #[.int .i64 a1, .slice none 0 0] := by kernel_rfl
theorem bld129_0 {a1 : Int} : Try.prog.built 129 [(0, .int .i64 a1)] = some #[.int .i64 a1, .int .u8 0, .int .i64 0, .int .i64 0, .int .i64 0, .int .i64 0, .string ⟨#[]⟩, .slice none 0 0, .int .i64 0, .int .i64 0, .int .i64 0, .int .i64 0, .int .i64 0, .int .i64 0, .slice none 0 0, .slice none 0 0] := by kernel_rfl
theorem bld136_0 {a1 : ByteArray} : Try.prog.built 136 [(0, .string a1)] = some #[.string a1, .slice none 0 0, .int .i64 0, .int .i64 0, .int .i64 0, .int .i64 0, .int .i64 0, .int .i64 0, .int .i64 0, .int .i64 0, .int .i64 0, .int .i64 0] := by kernel_rfl
theorem sih134 : Try.prog.stoodInHeld 134 = false := by kernel_rfl
theorem eqg134 : Try.prog.eqGuardType Try.prog.depth 134 = false := by kernel_rfl
theorem bld141_2 {a1 : Int} : Try.prog.built 141 [(2, .int .i64 a1)] = some #[.int .i64 0, .int .i64 0, .int .i64 a1] := by kernel_rfl
theorem bld147_1 {a1 : Int} : Try.prog.built 147 [(1, .int .i64 a1)] = some #[.int .u8 0, .int .i64 a1, .int .i64 0, .int .i64 0, .string ⟨#[]⟩, .slice none 0 0, .int .i64 0, .int .i64 0, .bool false, .int .u8 0, .int .i64 0, .int .i64 0, .int .i64 0, .slice none 0 0, .slice none 0 0] := by kernel_rfl
theorem bld152_1 {a1 : Int} : Try.prog.built 152 [(1, .int .i64 a1)] = some #[.int .u8 0, .int .i64 a1, .int .i64 0, .int .i64 0, .int .i64 0, .int .i64 0, .string ⟨#[]⟩, .slice none 0 0, .int .i64 0, .int .i64 0, .int .i64 0, .int .i64 0, .int .i64 0, .int .i64 0, .int .i64 0, .int .i64 0, .int .i64 0, .int .i64 0, .slice none 0 0, .int .i64 0, .slice none 0 0, .slice none 0 0] := by kernel_rfl
theorem bld158_2 {a1 : ByteArray} : Try.prog.built 158 [(2, .string a1)] = some #[.int .u8 0, .int .u8 0, .string a1, .int .i64 0] := by kernel_rfl
theorem bld164_8 {a1 : Int} : Try.prog.built 164 [(8, .int .i64 a1)] = some #[.int .u8 0, .int .u8 0, .int .i64 0, .int .i64 0, .int .i64 0, .int .i64 0, .bool false, .int .i64 0, .int .i64 a1, .int .i64 0, .slice none 0 0, .slice none 0 0, .int .i64 0, .int .u8 0, .int .i64 0, .int .i64 0, .int .i64 0, .int .i64 0, .string ⟨#[]⟩, .slice none 0 0, .int .i64 0, .int .i64 0, .int .i64 0, .int .i64 0, .int .i64 0, .int .i64 0, .slice none 0 0, .slice none 0 0, .int .u8 0, .int .i64 0, .int .i64 0, .int .i64 0, .string ⟨#[]⟩, .slice none 0 0, .int .i64 0, .int .i64 0, .bool false, .int .u8 0, .int .i64 0, .int .i64 0, .int .i64 0, .slice none 0 0, .slice none 0 0] := by kernel_rfl
theorem bld24_2 {a1 : Int} : Try.prog.built 24 [(2, .int .i64 a1)] = some #[.int .i64 0, .int .i64 0, .int .i64 a1, .int .i64 0, .slice none 0 0] := by kernel_rfl
theorem bld170_0 {a1 : Int} : Try.prog.built 170 [(0, .int .i64 a1)] = some #[.int .i64 a1, .slice none 0 0] := by kernel_rfl
theorem bld176_1 {a1 : Int} : Try.prog.built 176 [(1, .int .i64 a1)] = some #[.int .u8 0, .int .i64 a1, .int .i64 0, .int .i64 0, .int .u8 0, .int .i64 0, .int .i64 0, .int .i64 0, .string ⟨#[]⟩, .slice none 0 0, .int .i64 0, .int .i64 0, .bool false, .int .u8 0, .int .i64 0, .int .i64 0, .int .i64 0, .slice none 0 0, .slice none 0 0] := by kernel_rfl
theorem bld182_1 {a1 : Int} : Try.prog.built 182 [(1, .int .i64 a1)] = some #[.int .u8 0, .int .i64 a1, .int .i64 0, .int .i64 0, .int .i64 0, .int .u8 0, .int .u8 0, .int .i64 0, .int .i64 0, .int .i64 0, .string ⟨#[]⟩, .slice none 0 0, .int .i64 0, .int .i64 0, .bool false, .int .u8 0, .int .i64 0, .int .i64 0, .int .i64 0, .slice none 0 0, .slice none 0 0, .int .u8 0, .int .i64 0, .int .i64 0, .int .i64 0, .int .i64 0, .int .i64 0, .string ⟨#[]⟩, .slice none 0 0, .int .i64 0, .int .i64 0, .int .i64 0, .int .i64 0, .int .i64 0, .int .i64 0, .int .i64 0, .int .i64 0, .int .i64 0, .int .i64 0, .slice none 0 0, .int .i64 0, .slice none 0 0, .slice none 0 0, .int .u8 0, .int .u8 0, .string ⟨#[]⟩, .int .i64 0, .int .i64 0, .int .u8 0, .int .i64 0, .int .i64 0, .int .i64 0, .int .i64 0, .string ⟨#[]⟩, .slice none 0 0, .int .i64 0, .int .i64 0, .int .i64 0, .int .i64 0, .int .i64 0, .int .i64 0, .slice none 0 0, .slice none 0 0] := by kernel_rfl
theorem bld187_3 {a1 : Int} : Try.prog.built 187 [(3, .int .i64 a1)] = some #[.slice none 0 0, .int .i64 0, .int .i64 0, .int .i64 a1] := by kernel_rfl
end Go.Bd
