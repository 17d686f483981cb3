/- Facts about the seat's types. No condition. -/
import Derived.Test.YtjkihmffmpoalaaAbsT
import Derived.Test.YtjkihmffmpoalaaProg
import Derived.KernelRfl
set_option linter.unusedVariables false
namespace Go.Proofs.Try.Ty
open Go Go.Abs Go.Proofs

theorem mixed : Try.prog.follows .mixedOrders = true := by kernel_rfl
theorem g1 : Try.prog.eqGuardType Try.prog.depth 1 = false := by kernel_rfl
theorem s2 : szT Try.prog 2 = some 1 := by kernel_rfl
theorem b2 : byT Try.prog 2 = some 8 := by kernel_rfl
theorem a2 : aggT Try.prog 2 = some false := by kernel_rfl
theorem z2 : zT Try.prog 2 = some (.int .i64 0) := by kernel_rfl
theorem s3 : szT Try.prog 3 = some 1 := by kernel_rfl
theorem b3 : byT Try.prog 3 = some 8 := by kernel_rfl
theorem a3 : aggT Try.prog 3 = some false := by kernel_rfl
theorem z3 : zT Try.prog 3 = some (.int .i64 0) := by kernel_rfl
theorem s4 : szT Try.prog 4 = some 1 := by kernel_rfl
theorem b4 : byT Try.prog 4 = some 1 := by kernel_rfl
theorem a4 : aggT Try.prog 4 = some false := by kernel_rfl
theorem z4 : zT Try.prog 4 = some (.bool false) := by kernel_rfl
theorem s5 : szT Try.prog 5 = some 1 := by kernel_rfl
theorem b5 : byT Try.prog 5 = some 1 := by kernel_rfl
theorem a5 : aggT Try.prog 5 = some false := by kernel_rfl
theorem z5 : zT Try.prog 5 = some (.int .u8 0) := by kernel_rfl
theorem s6 : szT Try.prog 6 = some 1 := by kernel_rfl
theorem b6 : byT Try.prog 6 = some 1 := by kernel_rfl
theorem a6 : aggT Try.prog 6 = some false := by kernel_rfl
theorem z6 : zT Try.prog 6 = some (.int .u8 0) := by kernel_rfl
theorem s7 : szT Try.prog 7 = some 4 := by kernel_rfl
theorem b7 : byT Try.prog 7 = some 24 := by kernel_rfl
theorem a7 : aggT Try.prog 7 = some true := by kernel_rfl
theorem g7 : Try.prog.eqGuardType Try.prog.depth 7 = false := by kernel_rfl
theorem h7 : Try.prog.stoodInHeld 7 = false := by kernel_rfl
theorem z7 : zT Try.prog 7 = some (.agg [.int .i64 0, .int .i64 0, .bool false, .int .u8 0]) := by kernel_rfl
theorem s8 : szT Try.prog 8 = some 4 := by kernel_rfl
theorem b8 : byT Try.prog 8 = some 24 := by kernel_rfl
theorem a8 : aggT Try.prog 8 = some true := by kernel_rfl
theorem g8 : Try.prog.eqGuardType Try.prog.depth 8 = false := by kernel_rfl
theorem h8 : Try.prog.stoodInHeld 8 = false := by kernel_rfl
theorem z8 : zT Try.prog 8 = some (.agg [.int .i64 0, .int .i64 0, .bool false, .int .u8 0]) := by kernel_rfl
theorem s9 : szT Try.prog 9 = some 1 := by kernel_rfl
theorem b9 : byT Try.prog 9 = some 16 := by kernel_rfl
theorem a9 : aggT Try.prog 9 = some false := by kernel_rfl
theorem z9 : zT Try.prog 9 = some (.str []) := by kernel_rfl
theorem s10 : szT Try.prog 10 = some 1 := by kernel_rfl
theorem b10 : byT Try.prog 10 = some 16 := by kernel_rfl
theorem a10 : aggT Try.prog 10 = some false := by kernel_rfl
theorem z10 : zT Try.prog 10 = some (.str []) := by kernel_rfl
theorem s11 : szT Try.prog 11 = some 1 := by kernel_rfl
theorem b11 : byT Try.prog 11 = some 16 := by kernel_rfl
theorem a11 : aggT Try.prog 11 = some false := by kernel_rfl
theorem z11 : zT Try.prog 11 = some (.str []) := by kernel_rfl
theorem s12 : szT Try.prog 12 = some 1 := by kernel_rfl
theorem b12 : byT Try.prog 12 = some 8 := by kernel_rfl
theorem a12 : aggT Try.prog 12 = some false := by kernel_rfl
theorem z12 : zT Try.prog 12 = some (.int .u64 0) := by kernel_rfl
theorem s13 : szT Try.prog 13 = some 2 := by kernel_rfl
theorem b13 : byT Try.prog 13 = some 24 := by kernel_rfl
theorem a13 : aggT Try.prog 13 = some true := by kernel_rfl
theorem z13 : zT Try.prog 13 = some (.agg [.str [], .int .u64 0]) := by kernel_rfl
theorem s14 : szT Try.prog 14 = some 2 := by kernel_rfl
theorem b14 : byT Try.prog 14 = some 24 := by kernel_rfl
theorem a14 : aggT Try.prog 14 = some true := by kernel_rfl
theorem z14 : zT Try.prog 14 = some (.agg [.str [], .int .u64 0]) := by kernel_rfl
theorem g15 : Try.prog.eqGuardType Try.prog.depth 15 = false := by kernel_rfl
theorem s15 : szT Try.prog 15 = some 1 := by kernel_rfl
theorem b15 : byT Try.prog 15 = some 8 := by kernel_rfl
theorem a15 : aggT Try.prog 15 = some false := by kernel_rfl
theorem z15 : zT Try.prog 15 = some (.nilp) := by kernel_rfl
theorem g16 : Try.prog.eqGuardType Try.prog.depth 16 = false := by kernel_rfl
theorem s16 : szT Try.prog 16 = some 1 := by kernel_rfl
theorem b16 : byT Try.prog 16 = some 8 := by kernel_rfl
theorem a16 : aggT Try.prog 16 = some false := by kernel_rfl
theorem z16 : zT Try.prog 16 = some (.nilp) := by kernel_rfl
theorem g17 : Try.prog.eqGuardType Try.prog.depth 17 = false := by kernel_rfl
theorem s17 : szT Try.prog 17 = some 1 := by kernel_rfl
theorem b17 : byT Try.prog 17 = some 8 := by kernel_rfl
theorem a17 : aggT Try.prog 17 = some false := by kernel_rfl
theorem z17 : zT Try.prog 17 = some (.nilp) := by kernel_rfl
theorem s18 : szT Try.prog 18 = some 1 := by kernel_rfl
theorem b18 : byT Try.prog 18 = some 8 := by kernel_rfl
theorem a18 : aggT Try.prog 18 = some true := by kernel_rfl
theorem z18 : zT Try.prog 18 = some (.agg [.nilp]) := by kernel_rfl
theorem s19 : szT Try.prog 19 = some 1 := by kernel_rfl
theorem b19 : byT Try.prog 19 = some 8 := by kernel_rfl
theorem a19 : aggT Try.prog 19 = some true := by kernel_rfl
theorem z19 : zT Try.prog 19 = some (.agg [.nilp]) := by kernel_rfl
theorem s20 : szT Try.prog 20 = some 1 := by kernel_rfl
theorem b20 : byT Try.prog 20 = some 16 := by kernel_rfl
theorem a20 : aggT Try.prog 20 = some false := by kernel_rfl
theorem z20 : zT Try.prog 20 = some (.nili) := by kernel_rfl
theorem s21 : szT Try.prog 21 = some 1 := by kernel_rfl
theorem b21 : byT Try.prog 21 = some 4 := by kernel_rfl
theorem a21 : aggT Try.prog 21 = some false := by kernel_rfl
theorem z21 : zT Try.prog 21 = some (.int .i32 0) := by kernel_rfl
theorem g23 : Try.prog.eqGuardType Try.prog.depth 23 = false := by kernel_rfl
theorem g24 : Try.prog.eqGuardType Try.prog.depth 24 = false := by kernel_rfl
theorem g25 : Try.prog.eqGuardType Try.prog.depth 25 = false := by kernel_rfl
theorem g26 : Try.prog.eqGuardType Try.prog.depth 26 = false := by kernel_rfl
theorem g27 : Try.prog.eqGuardType Try.prog.depth 27 = false := by kernel_rfl
theorem g28 : Try.prog.eqGuardType Try.prog.depth 28 = false := by kernel_rfl
theorem s28 : szT Try.prog 28 = some 1 := by kernel_rfl
theorem b28 : byT Try.prog 28 = some 24 := by kernel_rfl
theorem a28 : aggT Try.prog 28 = some false := by kernel_rfl
theorem z28 : zT Try.prog 28 = some (.nils) := by kernel_rfl
theorem g29 : Try.prog.eqGuardType Try.prog.depth 29 = false := by kernel_rfl
theorem g30 : Try.prog.eqGuardType Try.prog.depth 30 = false := by kernel_rfl
theorem g31 : Try.prog.eqGuardType Try.prog.depth 31 = false := by kernel_rfl
theorem s31 : szT Try.prog 31 = some 1 := by kernel_rfl
theorem b31 : byT Try.prog 31 = some 24 := by kernel_rfl
theorem a31 : aggT Try.prog 31 = some false := by kernel_rfl
theorem z31 : zT Try.prog 31 = some (.nils) := by kernel_rfl
theorem g32 : Try.prog.eqGuardType Try.prog.depth 32 = false := by kernel_rfl
theorem g33 : Try.prog.eqGuardType Try.prog.depth 33 = false := by kernel_rfl
theorem s33 : szT Try.prog 33 = some 1 := by kernel_rfl
theorem b33 : byT Try.prog 33 = some 24 := by kernel_rfl
theorem a33 : aggT Try.prog 33 = some false := by kernel_rfl
theorem z33 : zT Try.prog 33 = some (.nils) := by kernel_rfl
theorem g34 : Try.prog.eqGuardType Try.prog.depth 34 = false := by kernel_rfl
theorem g35 : Try.prog.eqGuardType Try.prog.depth 35 = false := by kernel_rfl
theorem g37 : Try.prog.eqGuardType Try.prog.depth 37 = false := by kernel_rfl
theorem s38 : szT Try.prog 38 = some 6 := by kernel_rfl
theorem b38 : byT Try.prog 38 = some 48 := by kernel_rfl
theorem a38 : aggT Try.prog 38 = some true := by kernel_rfl
theorem g38 : Try.prog.eqGuardType Try.prog.depth 38 = false := by kernel_rfl
theorem h38 : Try.prog.stoodInHeld 38 = false := by kernel_rfl
theorem z38 : zT Try.prog 38 = some (.agg [.int .i64 0, .int .i64 0, .int .i64 0, .int .i64 0, .int .i64 0, .int .i64 0]) := by kernel_rfl
theorem s39 : szT Try.prog 39 = some 6 := by kernel_rfl
theorem b39 : byT Try.prog 39 = some 48 := by kernel_rfl
theorem a39 : aggT Try.prog 39 = some true := by kernel_rfl
theorem g39 : Try.prog.eqGuardType Try.prog.depth 39 = false := by kernel_rfl
theorem h39 : Try.prog.stoodInHeld 39 = false := by kernel_rfl
theorem z39 : zT Try.prog 39 = some (.agg [.int .i64 0, .int .i64 0, .int .i64 0, .int .i64 0, .int .i64 0, .int .i64 0]) := by kernel_rfl
theorem g41 : Try.prog.eqGuardType Try.prog.depth 41 = false := by kernel_rfl
theorem g42 : Try.prog.eqGuardType Try.prog.depth 42 = false := by kernel_rfl
theorem g43 : Try.prog.eqGuardType Try.prog.depth 43 = false := by kernel_rfl
theorem g44 : Try.prog.eqGuardType Try.prog.depth 44 = false := by kernel_rfl
theorem g45 : Try.prog.eqGuardType Try.prog.depth 45 = false := by kernel_rfl
theorem s46 : szT Try.prog 46 = some 2 := by kernel_rfl
theorem b46 : byT Try.prog 46 = some 24 := by kernel_rfl
theorem a46 : aggT Try.prog 46 = some true := by kernel_rfl
theorem g46 : Try.prog.eqGuardType Try.prog.depth 46 = false := by kernel_rfl
theorem h46 : Try.prog.stoodInHeld 46 = false := by kernel_rfl
theorem z46 : zT Try.prog 46 = some (.agg [.int .i64 0, .str []]) := by kernel_rfl
theorem s47 : szT Try.prog 47 = some 2 := by kernel_rfl
theorem b47 : byT Try.prog 47 = some 24 := by kernel_rfl
theorem a47 : aggT Try.prog 47 = some true := by kernel_rfl
theorem g47 : Try.prog.eqGuardType Try.prog.depth 47 = false := by kernel_rfl
theorem h47 : Try.prog.stoodInHeld 47 = false := by kernel_rfl
theorem z47 : zT Try.prog 47 = some (.agg [.int .i64 0, .str []]) := by kernel_rfl
theorem s48 : szT Try.prog 48 = some 2 := by kernel_rfl
theorem b48 : byT Try.prog 48 = some 24 := by kernel_rfl
theorem a48 : aggT Try.prog 48 = some true := by kernel_rfl
theorem g48 : Try.prog.eqGuardType Try.prog.depth 48 = false := by kernel_rfl
theorem h48 : Try.prog.stoodInHeld 48 = false := by kernel_rfl
theorem z48 : zT Try.prog 48 = some (.agg [.int .i64 0, .str []]) := by kernel_rfl
theorem g50 : Try.prog.eqGuardType Try.prog.depth 50 = false := by kernel_rfl
theorem g51 : Try.prog.eqGuardType Try.prog.depth 51 = false := by kernel_rfl
theorem g52 : Try.prog.eqGuardType Try.prog.depth 52 = false := by kernel_rfl
theorem g53 : Try.prog.eqGuardType Try.prog.depth 53 = false := by kernel_rfl
theorem g55 : Try.prog.eqGuardType Try.prog.depth 55 = false := by kernel_rfl
theorem g56 : Try.prog.eqGuardType Try.prog.depth 56 = false := by kernel_rfl
theorem s56 : szT Try.prog 56 = some 1 := by kernel_rfl
theorem b56 : byT Try.prog 56 = some 8 := by kernel_rfl
theorem a56 : aggT Try.prog 56 = some false := by kernel_rfl
theorem z56 : zT Try.prog 56 = some (.nilp) := by kernel_rfl
theorem g57 : Try.prog.eqGuardType Try.prog.depth 57 = false := by kernel_rfl
theorem g58 : Try.prog.eqGuardType Try.prog.depth 58 = false := by kernel_rfl
theorem g59 : Try.prog.eqGuardType Try.prog.depth 59 = false := by kernel_rfl
theorem g60 : Try.prog.eqGuardType Try.prog.depth 60 = false := by kernel_rfl
theorem g61 : Try.prog.eqGuardType Try.prog.depth 61 = false := by kernel_rfl
theorem s61 : szT Try.prog 61 = some 1 := by kernel_rfl
theorem b61 : byT Try.prog 61 = some 24 := by kernel_rfl
theorem a61 : aggT Try.prog 61 = some false := by kernel_rfl
theorem z61 : zT Try.prog 61 = some (.nils) := by kernel_rfl
theorem s62 : szT Try.prog 62 = some 2 := by kernel_rfl
theorem b62 : byT Try.prog 62 = some 16 := by kernel_rfl
theorem a62 : aggT Try.prog 62 = some true := by kernel_rfl
theorem g62 : Try.prog.eqGuardType Try.prog.depth 62 = false := by kernel_rfl
theorem h62 : Try.prog.stoodInHeld 62 = false := by kernel_rfl
theorem z62 : zT Try.prog 62 = some (.agg [.int .i64 0, .int .u8 0]) := by kernel_rfl
theorem s63 : szT Try.prog 63 = some 2 := by kernel_rfl
theorem b63 : byT Try.prog 63 = some 16 := by kernel_rfl
theorem a63 : aggT Try.prog 63 = some true := by kernel_rfl
theorem g63 : Try.prog.eqGuardType Try.prog.depth 63 = false := by kernel_rfl
theorem h63 : Try.prog.stoodInHeld 63 = false := by kernel_rfl
theorem z63 : zT Try.prog 63 = some (.agg [.int .i64 0, .int .u8 0]) := by kernel_rfl
theorem g64 : Try.prog.eqGuardType Try.prog.depth 64 = false := by kernel_rfl
theorem g65 : Try.prog.eqGuardType Try.prog.depth 65 = false := by kernel_rfl
theorem g66 : Try.prog.eqGuardType Try.prog.depth 66 = false := by kernel_rfl
theorem g67 : Try.prog.eqGuardType Try.prog.depth 67 = false := by kernel_rfl
theorem g68 : Try.prog.eqGuardType Try.prog.depth 68 = false := by kernel_rfl
theorem g70 : Try.prog.eqGuardType Try.prog.depth 70 = false := by kernel_rfl
theorem g71 : Try.prog.eqGuardType Try.prog.depth 71 = false := by kernel_rfl
theorem g72 : Try.prog.eqGuardType Try.prog.depth 72 = false := by kernel_rfl
theorem s73 : szT Try.prog 73 = some 12 := by kernel_rfl
theorem b73 : byT Try.prog 73 = some 96 := by kernel_rfl
theorem a73 : aggT Try.prog 73 = some true := by kernel_rfl
theorem g73 : Try.prog.eqGuardType Try.prog.depth 73 = false := by kernel_rfl
theorem h73 : Try.prog.stoodInHeld 73 = false := by kernel_rfl
theorem z73 : zT Try.prog 73 = some (.agg [.int .i64 0, .int .i64 0, .int .i64 0, .int .i64 0, .int .i64 0, .int .i64 0, .int .i64 0, .int .i64 0, .int .i64 0, .int .i64 0, .int .i64 0, .int .i64 0]) := by kernel_rfl
theorem g74 : Try.prog.eqGuardType Try.prog.depth 74 = false := by kernel_rfl
theorem g75 : Try.prog.eqGuardType Try.prog.depth 75 = false := by kernel_rfl
theorem s75 : szT Try.prog 75 = some 1 := by kernel_rfl
theorem b75 : byT Try.prog 75 = some 24 := by kernel_rfl
theorem a75 : aggT Try.prog 75 = some false := by kernel_rfl
theorem z75 : zT Try.prog 75 = some (.nils) := by kernel_rfl
theorem g76 : Try.prog.eqGuardType Try.prog.depth 76 = false := by kernel_rfl
theorem g77 : Try.prog.eqGuardType Try.prog.depth 77 = false := by kernel_rfl
theorem g78 : Try.prog.eqGuardType Try.prog.depth 78 = false := by kernel_rfl
theorem s78 : szT Try.prog 78 = some 1 := by kernel_rfl
theorem b78 : byT Try.prog 78 = some 24 := by kernel_rfl
theorem a78 : aggT Try.prog 78 = some false := by kernel_rfl
theorem z78 : zT Try.prog 78 = some (.nils) := by kernel_rfl
theorem g79 : Try.prog.eqGuardType Try.prog.depth 79 = false := by kernel_rfl
theorem g80 : Try.prog.eqGuardType Try.prog.depth 80 = false := by kernel_rfl
theorem s80 : szT Try.prog 80 = some 1 := by kernel_rfl
theorem b80 : byT Try.prog 80 = some 24 := by kernel_rfl
theorem a80 : aggT Try.prog 80 = some false := by kernel_rfl
theorem z80 : zT Try.prog 80 = some (.nils) := by kernel_rfl
theorem s81 : szT Try.prog 81 = some 2 := by kernel_rfl
theorem b81 : byT Try.prog 81 = some 24 := by kernel_rfl
theorem a81 : aggT Try.prog 81 = some true := by kernel_rfl
theorem g81 : Try.prog.eqGuardType Try.prog.depth 81 = false := by kernel_rfl
theorem h81 : Try.prog.stoodInHeld 81 = false := by kernel_rfl
theorem z81 : zT Try.prog 81 = some (.agg [.str [], .int .i64 0]) := by kernel_rfl
theorem s82 : szT Try.prog 82 = some 2 := by kernel_rfl
theorem b82 : byT Try.prog 82 = some 24 := by kernel_rfl
theorem a82 : aggT Try.prog 82 = some true := by kernel_rfl
theorem g82 : Try.prog.eqGuardType Try.prog.depth 82 = false := by kernel_rfl
theorem h82 : Try.prog.stoodInHeld 82 = false := by kernel_rfl
theorem z82 : zT Try.prog 82 = some (.agg [.str [], .int .i64 0]) := by kernel_rfl
theorem g83 : Try.prog.eqGuardType Try.prog.depth 83 = false := by kernel_rfl
theorem g84 : Try.prog.eqGuardType Try.prog.depth 84 = false := by kernel_rfl
theorem g85 : Try.prog.eqGuardType Try.prog.depth 85 = false := by kernel_rfl
theorem g86 : Try.prog.eqGuardType Try.prog.depth 86 = false := by kernel_rfl
theorem s87 : szT Try.prog 87 = some 4 := by kernel_rfl
theorem b87 : byT Try.prog 87 = some 40 := by kernel_rfl
theorem a87 : aggT Try.prog 87 = some true := by kernel_rfl
theorem z87 : zT Try.prog 87 = some (.agg [.nilp, .nilp, .nilp, .str []]) := by kernel_rfl
theorem s88 : szT Try.prog 88 = some 4 := by kernel_rfl
theorem b88 : byT Try.prog 88 = some 40 := by kernel_rfl
theorem a88 : aggT Try.prog 88 = some true := by kernel_rfl
theorem z88 : zT Try.prog 88 = some (.agg [.nilp, .nilp, .nilp, .str []]) := by kernel_rfl
theorem s89 : szT Try.prog 89 = some 0 := by kernel_rfl
theorem b89 : byT Try.prog 89 = some 0 := by kernel_rfl
theorem a89 : aggT Try.prog 89 = some true := by kernel_rfl
theorem z89 : zT Try.prog 89 = some (.agg []) := by kernel_rfl
theorem s90 : szT Try.prog 90 = some 0 := by kernel_rfl
theorem b90 : byT Try.prog 90 = some 0 := by kernel_rfl
theorem a90 : aggT Try.prog 90 = some true := by kernel_rfl
theorem z90 : zT Try.prog 90 = some (.agg []) := by kernel_rfl
theorem s91 : szT Try.prog 91 = some 0 := by kernel_rfl
theorem b91 : byT Try.prog 91 = some 0 := by kernel_rfl
theorem a91 : aggT Try.prog 91 = some true := by kernel_rfl
theorem z91 : zT Try.prog 91 = some (.agg []) := by kernel_rfl
theorem s92 : szT Try.prog 92 = some 1 := by kernel_rfl
theorem b92 : byT Try.prog 92 = some 4 := by kernel_rfl
theorem a92 : aggT Try.prog 92 = some false := by kernel_rfl
theorem z92 : zT Try.prog 92 = some (.int .u32 0) := by kernel_rfl
theorem s93 : szT Try.prog 93 = some 1 := by kernel_rfl
theorem b93 : byT Try.prog 93 = some 1 := by kernel_rfl
theorem a93 : aggT Try.prog 93 = some false := by kernel_rfl
theorem z93 : zT Try.prog 93 = some (.int .u8 0) := by kernel_rfl
theorem s94 : szT Try.prog 94 = some 1 := by kernel_rfl
theorem b94 : byT Try.prog 94 = some 1 := by kernel_rfl
theorem a94 : aggT Try.prog 94 = some false := by kernel_rfl
theorem z94 : zT Try.prog 94 = some (.int .u8 0) := by kernel_rfl
theorem g95 : Try.prog.eqGuardType Try.prog.depth 95 = false := by kernel_rfl
theorem g96 : Try.prog.eqGuardType Try.prog.depth 96 = false := by kernel_rfl
theorem s96 : szT Try.prog 96 = some 1 := by kernel_rfl
theorem b96 : byT Try.prog 96 = some 8 := by kernel_rfl
theorem a96 : aggT Try.prog 96 = some false := by kernel_rfl
theorem z96 : zT Try.prog 96 = some (.nilp) := by kernel_rfl
theorem s97 : szT Try.prog 97 = some 1 := by kernel_rfl
theorem b97 : byT Try.prog 97 = some 4 := by kernel_rfl
theorem a97 : aggT Try.prog 97 = some false := by kernel_rfl
theorem z97 : zT Try.prog 97 = some (.int .i32 0) := by kernel_rfl
theorem s98 : szT Try.prog 98 = some 1 := by kernel_rfl
theorem b98 : byT Try.prog 98 = some 4 := by kernel_rfl
theorem a98 : aggT Try.prog 98 = some false := by kernel_rfl
theorem z98 : zT Try.prog 98 = some (.int .i32 0) := by kernel_rfl
theorem s99 : szT Try.prog 99 = some 11 := by kernel_rfl
theorem b99 : byT Try.prog 99 = some 48 := by kernel_rfl
theorem a99 : aggT Try.prog 99 = some true := by kernel_rfl
theorem z99 : zT Try.prog 99 = some (.agg [.int .u64 0, .int .u64 0, .int .u32 0, .int .u8 0, .int .u8 0, .int .u8 0, .int .u8 0, .nilf, .nilp, .int .i32 0, .int .i32 0]) := by kernel_rfl
theorem s100 : szT Try.prog 100 = some 11 := by kernel_rfl
theorem b100 : byT Try.prog 100 = some 48 := by kernel_rfl
theorem a100 : aggT Try.prog 100 = some true := by kernel_rfl
theorem z100 : zT Try.prog 100 = some (.agg [.int .u64 0, .int .u64 0, .int .u32 0, .int .u8 0, .int .u8 0, .int .u8 0, .int .u8 0, .nilf, .nilp, .int .i32 0, .int .i32 0]) := by kernel_rfl
end Go.Proofs.Try.Ty
