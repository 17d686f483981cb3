/- Facts about the seat's types. No condition. -/
import Derived.Test.YtbefomjofkcobaaAbsT
import Derived.Test.YtbefomjofkcobaaProg
import Derived.KernelRfl
set_option linter.unusedVariables false
namespace Go.Proofs.Try.Ty
open Go Go.Abs Go.Proofs

theorem mixed : Try.prog.follows .mixedOrders = true := by kernel_rfl
theorem g1 : Try.prog.eqGuardType Try.prog.depth 1 = false := by kernel_rfl
theorem s2 : szT Try.prog 2 = some 1 := by kernel_rfl
theorem b2 : byT Try.prog 2 = some 8 := by kernel_rfl
theorem a2 : aggT Try.prog 2 = some false := by kernel_rfl
theorem z2 : zT Try.prog 2 = some (.int .i64 0) := by kernel_rfl
theorem s3 : szT Try.prog 3 = some 1 := by kernel_rfl
theorem b3 : byT Try.prog 3 = some 8 := by kernel_rfl
theorem a3 : aggT Try.prog 3 = some false := by kernel_rfl
theorem z3 : zT Try.prog 3 = some (.int .i64 0) := by kernel_rfl
theorem s4 : szT Try.prog 4 = some 1 := by kernel_rfl
theorem b4 : byT Try.prog 4 = some 1 := by kernel_rfl
theorem a4 : aggT Try.prog 4 = some false := by kernel_rfl
theorem z4 : zT Try.prog 4 = some (.bool false) := by kernel_rfl
theorem s5 : szT Try.prog 5 = some 1 := by kernel_rfl
theorem b5 : byT Try.prog 5 = some 1 := by kernel_rfl
theorem a5 : aggT Try.prog 5 = some false := by kernel_rfl
theorem z5 : zT Try.prog 5 = some (.int .u8 0) := by kernel_rfl
theorem s6 : szT Try.prog 6 = some 1 := by kernel_rfl
theorem b6 : byT Try.prog 6 = some 1 := by kernel_rfl
theorem a6 : aggT Try.prog 6 = some false := by kernel_rfl
theorem z6 : zT Try.prog 6 = some (.int .u8 0) := by kernel_rfl
theorem s7 : szT Try.prog 7 = some 4 := by kernel_rfl
theorem b7 : byT Try.prog 7 = some 24 := by kernel_rfl
theorem a7 : aggT Try.prog 7 = some true := by kernel_rfl
theorem g7 : Try.prog.eqGuardType Try.prog.depth 7 = false := by kernel_rfl
theorem h7 : Try.prog.stoodInHeld 7 = false := by kernel_rfl
theorem z7 : zT Try.prog 7 = some (.agg [.int .i64 0, .int .i64 0, .bool false, .int .u8 0]) := by kernel_rfl
theorem s8 : szT Try.prog 8 = some 4 := by kernel_rfl
theorem b8 : byT Try.prog 8 = some 24 := by kernel_rfl
theorem a8 : aggT Try.prog 8 = some true := by kernel_rfl
theorem g8 : Try.prog.eqGuardType Try.prog.depth 8 = false := by kernel_rfl
theorem h8 : Try.prog.stoodInHeld 8 = false := by kernel_rfl
theorem z8 : zT Try.prog 8 = some (.agg [.int .i64 0, .int .i64 0, .bool false, .int .u8 0]) := by kernel_rfl
theorem s9 : szT Try.prog 9 = some 1 := by kernel_rfl
theorem b9 : byT Try.prog 9 = some 16 := by kernel_rfl
theorem a9 : aggT Try.prog 9 = some false := by kernel_rfl
theorem z9 : zT Try.prog 9 = some (.str []) := by kernel_rfl
theorem s10 : szT Try.prog 10 = some 1 := by kernel_rfl
theorem b10 : byT Try.prog 10 = some 16 := by kernel_rfl
theorem a10 : aggT Try.prog 10 = some false := by kernel_rfl
theorem z10 : zT Try.prog 10 = some (.str []) := by kernel_rfl
theorem s11 : szT Try.prog 11 = some 1 := by kernel_rfl
theorem b11 : byT Try.prog 11 = some 16 := by kernel_rfl
theorem a11 : aggT Try.prog 11 = some false := by kernel_rfl
theorem z11 : zT Try.prog 11 = some (.str []) := by kernel_rfl
theorem s12 : szT Try.prog 12 = some 1 := by kernel_rfl
theorem b12 : byT Try.prog 12 = some 8 := by kernel_rfl
theorem a12 : aggT Try.prog 12 = some false := by kernel_rfl
theorem z12 : zT Try.prog 12 = some (.int .u64 0) := by kernel_rfl
theorem s13 : szT Try.prog 13 = some 2 := by kernel_rfl
theorem b13 : byT Try.prog 13 = some 24 := by kernel_rfl
theorem a13 : aggT Try.prog 13 = some true := by kernel_rfl
theorem z13 : zT Try.prog 13 = some (.agg [.str [], .int .u64 0]) := by kernel_rfl
theorem s14 : szT Try.prog 14 = some 2 := by kernel_rfl
theorem b14 : byT Try.prog 14 = some 24 := by kernel_rfl
theorem a14 : aggT Try.prog 14 = some true := by kernel_rfl
theorem z14 : zT Try.prog 14 = some (.agg [.str [], .int .u64 0]) := by kernel_rfl
theorem g15 : Try.prog.eqGuardType Try.prog.depth 15 = false := by kernel_rfl
theorem s15 : szT Try.prog 15 = some 1 := by kernel_rfl
theorem b15 : byT Try.prog 15 = some 8 := by kernel_rfl
theorem a15 : aggT Try.prog 15 = some false := by kernel_rfl
theorem z15 : zT Try.prog 15 = some (.nilp) := by kernel_rfl
theorem g16 : Try.prog.eqGuardType Try.prog.depth 16 = false := by kernel_rfl
theorem s16 : szT Try.prog 16 = some 1 := by kernel_rfl
theorem b16 : byT Try.prog 16 = some 8 := by kernel_rfl
theorem a16 : aggT Try.prog 16 = some false := by kernel_rfl
theorem z16 : zT Try.prog 16 = some (.nilp) := by kernel_rfl
theorem g17 : Try.prog.eqGuardType Try.prog.depth 17 = false := by kernel_rfl
theorem s17 : szT Try.prog 17 = some 1 := by kernel_rfl
theorem b17 : byT Try.prog 17 = some 8 := by kernel_rfl
theorem a17 : aggT Try.prog 17 = some false := by kernel_rfl
theorem z17 : zT Try.prog 17 = some (.nilp) := by kernel_rfl
theorem s18 : szT Try.prog 18 = some 1 := by kernel_rfl
theorem b18 : byT Try.prog 18 = some 8 := by kernel_rfl
theorem a18 : aggT Try.prog 18 = some true := by kernel_rfl
theorem z18 : zT Try.prog 18 = some (.agg [.nilp]) := by kernel_rfl
theorem s19 : szT Try.prog 19 = some 1 := by kernel_rfl
theorem b19 : byT Try.prog 19 = some 8 := by kernel_rfl
theorem a19 : aggT Try.prog 19 = some true := by kernel_rfl
theorem z19 : zT Try.prog 19 = some (.agg [.nilp]) := by kernel_rfl
theorem s20 : szT Try.prog 20 = some 1 := by kernel_rfl
theorem b20 : byT Try.prog 20 = some 16 := by kernel_rfl
theorem a20 : aggT Try.prog 20 = some false := by kernel_rfl
theorem z20 : zT Try.prog 20 = some (.nili) := by kernel_rfl
theorem s21 : szT Try.prog 21 = some 1 := by kernel_rfl
theorem b21 : byT Try.prog 21 = some 4 := by kernel_rfl
theorem a21 : aggT Try.prog 21 = some false := by kernel_rfl
theorem z21 : zT Try.prog 21 = some (.int .i32 0) := by kernel_rfl
theorem g22 : Try.prog.eqGuardType Try.prog.depth 22 = false := by kernel_rfl
theorem s22 : szT Try.prog 22 = some 1 := by kernel_rfl
theorem b22 : byT Try.prog 22 = some 24 := by kernel_rfl
theorem a22 : aggT Try.prog 22 = some false := by kernel_rfl
theorem z22 : zT Try.prog 22 = some (.nils) := by kernel_rfl
theorem g24 : Try.prog.eqGuardType Try.prog.depth 24 = false := by kernel_rfl
theorem g25 : Try.prog.eqGuardType Try.prog.depth 25 = false := by kernel_rfl
theorem g26 : Try.prog.eqGuardType Try.prog.depth 26 = false := by kernel_rfl
theorem g27 : Try.prog.eqGuardType Try.prog.depth 27 = false := by kernel_rfl
theorem g28 : Try.prog.eqGuardType Try.prog.depth 28 = false := by kernel_rfl
theorem g29 : Try.prog.eqGuardType Try.prog.depth 29 = false := by kernel_rfl
theorem g30 : Try.prog.eqGuardType Try.prog.depth 30 = false := by kernel_rfl
theorem g31 : Try.prog.eqGuardType Try.prog.depth 31 = false := by kernel_rfl
theorem s32 : szT Try.prog 32 = some 1 := by kernel_rfl
theorem b32 : byT Try.prog 32 = some 8 := by kernel_rfl
theorem a32 : aggT Try.prog 32 = some false := by kernel_rfl
theorem z32 : zT Try.prog 32 = some (.int .i64 0) := by kernel_rfl
theorem g34 : Try.prog.eqGuardType Try.prog.depth 34 = false := by kernel_rfl
theorem g36 : Try.prog.eqGuardType Try.prog.depth 36 = false := by kernel_rfl
theorem g37 : Try.prog.eqGuardType Try.prog.depth 37 = false := by kernel_rfl
theorem g38 : Try.prog.eqGuardType Try.prog.depth 38 = false := by kernel_rfl
theorem g39 : Try.prog.eqGuardType Try.prog.depth 39 = false := by kernel_rfl
theorem g40 : Try.prog.eqGuardType Try.prog.depth 40 = false := by kernel_rfl
theorem s40 : szT Try.prog 40 = some 1 := by kernel_rfl
theorem b40 : byT Try.prog 40 = some 24 := by kernel_rfl
theorem a40 : aggT Try.prog 40 = some false := by kernel_rfl
theorem z40 : zT Try.prog 40 = some (.nils) := by kernel_rfl
theorem g42 : Try.prog.eqGuardType Try.prog.depth 42 = false := by kernel_rfl
theorem g43 : Try.prog.eqGuardType Try.prog.depth 43 = false := by kernel_rfl
theorem g44 : Try.prog.eqGuardType Try.prog.depth 44 = false := by kernel_rfl
theorem g45 : Try.prog.eqGuardType Try.prog.depth 45 = false := by kernel_rfl
theorem g46 : Try.prog.eqGuardType Try.prog.depth 46 = false := by kernel_rfl
theorem g47 : Try.prog.eqGuardType Try.prog.depth 47 = false := by kernel_rfl
theorem s48 : szT Try.prog 48 = some 2 := by kernel_rfl
theorem b48 : byT Try.prog 48 = some 32 := by kernel_rfl
theorem a48 : aggT Try.prog 48 = some true := by kernel_rfl
theorem g48 : Try.prog.eqGuardType Try.prog.depth 48 = false := by kernel_rfl
theorem h48 : Try.prog.stoodInHeld 48 = false := by kernel_rfl
theorem z48 : zT Try.prog 48 = some (.agg [.str [], .str []]) := by kernel_rfl
theorem s49 : szT Try.prog 49 = some 2 := by kernel_rfl
theorem b49 : byT Try.prog 49 = some 32 := by kernel_rfl
theorem a49 : aggT Try.prog 49 = some true := by kernel_rfl
theorem g49 : Try.prog.eqGuardType Try.prog.depth 49 = false := by kernel_rfl
theorem h49 : Try.prog.stoodInHeld 49 = false := by kernel_rfl
theorem z49 : zT Try.prog 49 = some (.agg [.str [], .str []]) := by kernel_rfl
theorem g50 : Try.prog.eqGuardType Try.prog.depth 50 = false := by kernel_rfl
theorem g52 : Try.prog.eqGuardType Try.prog.depth 52 = false := by kernel_rfl
theorem g53 : Try.prog.eqGuardType Try.prog.depth 53 = false := by kernel_rfl
theorem g54 : Try.prog.eqGuardType Try.prog.depth 54 = false := by kernel_rfl
theorem g55 : Try.prog.eqGuardType Try.prog.depth 55 = false := by kernel_rfl
theorem g56 : Try.prog.eqGuardType Try.prog.depth 56 = false := by kernel_rfl
theorem g57 : Try.prog.eqGuardType Try.prog.depth 57 = false := by kernel_rfl
theorem s57 : szT Try.prog 57 = some 1 := by kernel_rfl
theorem b57 : byT Try.prog 57 = some 24 := by kernel_rfl
theorem a57 : aggT Try.prog 57 = some false := by kernel_rfl
theorem z57 : zT Try.prog 57 = some (.nils) := by kernel_rfl
theorem g58 : Try.prog.eqGuardType Try.prog.depth 58 = false := by kernel_rfl
theorem g59 : Try.prog.eqGuardType Try.prog.depth 59 = false := by kernel_rfl
theorem g60 : Try.prog.eqGuardType Try.prog.depth 60 = false := by kernel_rfl
theorem s60 : szT Try.prog 60 = some 1 := by kernel_rfl
theorem b60 : byT Try.prog 60 = some 24 := by kernel_rfl
theorem a60 : aggT Try.prog 60 = some false := by kernel_rfl
theorem z60 : zT Try.prog 60 = some (.nils) := by kernel_rfl
theorem g61 : Try.prog.eqGuardType Try.prog.depth 61 = false := by kernel_rfl
theorem g62 : Try.prog.eqGuardType Try.prog.depth 62 = false := by kernel_rfl
theorem g63 : Try.prog.eqGuardType Try.prog.depth 63 = false := by kernel_rfl
theorem g64 : Try.prog.eqGuardType Try.prog.depth 64 = false := by kernel_rfl
theorem s65 : szT Try.prog 65 = some 3 := by kernel_rfl
theorem b65 : byT Try.prog 65 = some 40 := by kernel_rfl
theorem a65 : aggT Try.prog 65 = some true := by kernel_rfl
theorem g65 : Try.prog.eqGuardType Try.prog.depth 65 = false := by kernel_rfl
theorem h65 : Try.prog.stoodInHeld 65 = false := by kernel_rfl
theorem z65 : zT Try.prog 65 = some (.agg [.int .i64 0, .str [], .str []]) := by kernel_rfl
theorem s66 : szT Try.prog 66 = some 3 := by kernel_rfl
theorem b66 : byT Try.prog 66 = some 40 := by kernel_rfl
theorem a66 : aggT Try.prog 66 = some true := by kernel_rfl
theorem g66 : Try.prog.eqGuardType Try.prog.depth 66 = false := by kernel_rfl
theorem h66 : Try.prog.stoodInHeld 66 = false := by kernel_rfl
theorem z66 : zT Try.prog 66 = some (.agg [.int .i64 0, .str [], .str []]) := by kernel_rfl
theorem s67 : szT Try.prog 67 = some 2 := by kernel_rfl
theorem b67 : byT Try.prog 67 = some 24 := by kernel_rfl
theorem a67 : aggT Try.prog 67 = some true := by kernel_rfl
theorem g67 : Try.prog.eqGuardType Try.prog.depth 67 = false := by kernel_rfl
theorem h67 : Try.prog.stoodInHeld 67 = false := by kernel_rfl
theorem z67 : zT Try.prog 67 = some (.agg [.str [], .int .i64 0]) := by kernel_rfl
theorem s68 : szT Try.prog 68 = some 2 := by kernel_rfl
theorem b68 : byT Try.prog 68 = some 24 := by kernel_rfl
theorem a68 : aggT Try.prog 68 = some true := by kernel_rfl
theorem g68 : Try.prog.eqGuardType Try.prog.depth 68 = false := by kernel_rfl
theorem h68 : Try.prog.stoodInHeld 68 = false := by kernel_rfl
theorem z68 : zT Try.prog 68 = some (.agg [.str [], .int .i64 0]) := by kernel_rfl
theorem g70 : Try.prog.eqGuardType Try.prog.depth 70 = false := by kernel_rfl
theorem g71 : Try.prog.eqGuardType Try.prog.depth 71 = false := by kernel_rfl
theorem g72 : Try.prog.eqGuardType Try.prog.depth 72 = false := by kernel_rfl
theorem s73 : szT Try.prog 73 = some 2 := by kernel_rfl
theorem b73 : byT Try.prog 73 = some 32 := by kernel_rfl
theorem a73 : aggT Try.prog 73 = some true := by kernel_rfl
theorem g73 : Try.prog.eqGuardType Try.prog.depth 73 = false := by kernel_rfl
theorem h73 : Try.prog.stoodInHeld 73 = false := by kernel_rfl
theorem z73 : zT Try.prog 73 = some (.agg [.str [], .str []]) := by kernel_rfl
theorem g74 : Try.prog.eqGuardType Try.prog.depth 74 = false := by kernel_rfl
theorem g75 : Try.prog.eqGuardType Try.prog.depth 75 = false := by kernel_rfl
theorem g76 : Try.prog.eqGuardType Try.prog.depth 76 = false := by kernel_rfl
theorem g77 : Try.prog.eqGuardType Try.prog.depth 77 = false := by kernel_rfl
theorem s78 : szT Try.prog 78 = some 5 := by kernel_rfl
theorem b78 : byT Try.prog 78 = some 40 := by kernel_rfl
theorem a78 : aggT Try.prog 78 = some true := by kernel_rfl
theorem g78 : Try.prog.eqGuardType Try.prog.depth 78 = false := by kernel_rfl
theorem h78 : Try.prog.stoodInHeld 78 = false := by kernel_rfl
theorem z78 : zT Try.prog 78 = some (.agg [.int .i64 0, .int .i64 0, .int .i64 0, .int .i64 0, .int .i64 0]) := by kernel_rfl
theorem s79 : szT Try.prog 79 = some 5 := by kernel_rfl
theorem b79 : byT Try.prog 79 = some 40 := by kernel_rfl
theorem a79 : aggT Try.prog 79 = some true := by kernel_rfl
theorem g79 : Try.prog.eqGuardType Try.prog.depth 79 = false := by kernel_rfl
theorem h79 : Try.prog.stoodInHeld 79 = false := by kernel_rfl
theorem z79 : zT Try.prog 79 = some (.agg [.int .i64 0, .int .i64 0, .int .i64 0, .int .i64 0, .int .i64 0]) := by kernel_rfl
theorem s80 : szT Try.prog 80 = some 18 := by kernel_rfl
theorem b80 : byT Try.prog 80 = some 160 := by kernel_rfl
theorem a80 : aggT Try.prog 80 = some true := by kernel_rfl
theorem g80 : Try.prog.eqGuardType Try.prog.depth 80 = false := by kernel_rfl
theorem h80 : Try.prog.stoodInHeld 80 = false := by kernel_rfl
theorem z80 : zT Try.prog 80 = some (.agg [.str [], .str [], .int .i64 0, .int .i64 0, .int .i64 0, .int .i64 0, .int .i64 0, .int .i64 0, .int .i64 0, .int .i64 0, .int .i64 0, .int .i64 0, .int .i64 0, .int .i64 0, .int .i64 0, .int .i64 0, .int .i64 0, .int .i64 0]) := by kernel_rfl
theorem s81 : szT Try.prog 81 = some 18 := by kernel_rfl
theorem b81 : byT Try.prog 81 = some 160 := by kernel_rfl
theorem a81 : aggT Try.prog 81 = some true := by kernel_rfl
theorem g81 : Try.prog.eqGuardType Try.prog.depth 81 = false := by kernel_rfl
theorem h81 : Try.prog.stoodInHeld 81 = false := by kernel_rfl
theorem z81 : zT Try.prog 81 = some (.agg [.str [], .str [], .int .i64 0, .int .i64 0, .int .i64 0, .int .i64 0, .int .i64 0, .int .i64 0, .int .i64 0, .int .i64 0, .int .i64 0, .int .i64 0, .int .i64 0, .int .i64 0, .int .i64 0, .int .i64 0, .int .i64 0, .int .i64 0]) := by kernel_rfl
theorem g82 : Try.prog.eqGuardType Try.prog.depth 82 = false := by kernel_rfl
theorem g83 : Try.prog.eqGuardType Try.prog.depth 83 = false := by kernel_rfl
theorem g84 : Try.prog.eqGuardType Try.prog.depth 84 = false := by kernel_rfl
theorem g86 : Try.prog.eqGuardType Try.prog.depth 86 = false := by kernel_rfl
theorem g88 : Try.prog.eqGuardType Try.prog.depth 88 = false := by kernel_rfl
theorem s89 : szT Try.prog 89 = some 3 := by kernel_rfl
theorem b89 : byT Try.prog 89 = some 40 := by kernel_rfl
theorem a89 : aggT Try.prog 89 = some true := by kernel_rfl
theorem g89 : Try.prog.eqGuardType Try.prog.depth 89 = false := by kernel_rfl
theorem h89 : Try.prog.stoodInHeld 89 = false := by kernel_rfl
theorem z89 : zT Try.prog 89 = some (.agg [.str [], .str [], .bool false]) := by kernel_rfl
theorem s90 : szT Try.prog 90 = some 3 := by kernel_rfl
theorem b90 : byT Try.prog 90 = some 40 := by kernel_rfl
theorem a90 : aggT Try.prog 90 = some true := by kernel_rfl
theorem g90 : Try.prog.eqGuardType Try.prog.depth 90 = false := by kernel_rfl
theorem h90 : Try.prog.stoodInHeld 90 = false := by kernel_rfl
theorem z90 : zT Try.prog 90 = some (.agg [.str [], .str [], .bool false]) := by kernel_rfl
theorem g92 : Try.prog.eqGuardType Try.prog.depth 92 = false := by kernel_rfl
theorem g93 : Try.prog.eqGuardType Try.prog.depth 93 = false := by kernel_rfl
theorem g94 : Try.prog.eqGuardType Try.prog.depth 94 = false := by kernel_rfl
theorem s94 : szT Try.prog 94 = some 1 := by kernel_rfl
theorem b94 : byT Try.prog 94 = some 24 := by kernel_rfl
theorem a94 : aggT Try.prog 94 = some false := by kernel_rfl
theorem z94 : zT Try.prog 94 = some (.nils) := by kernel_rfl
theorem g95 : Try.prog.eqGuardType Try.prog.depth 95 = false := by kernel_rfl
theorem g96 : Try.prog.eqGuardType Try.prog.depth 96 = false := by kernel_rfl
theorem g98 : Try.prog.eqGuardType Try.prog.depth 98 = false := by kernel_rfl
theorem g99 : Try.prog.eqGuardType Try.prog.depth 99 = false := by kernel_rfl
theorem g100 : Try.prog.eqGuardType Try.prog.depth 100 = false := by kernel_rfl
theorem g101 : Try.prog.eqGuardType Try.prog.depth 101 = false := by kernel_rfl
theorem g103 : Try.prog.eqGuardType Try.prog.depth 103 = false := by kernel_rfl
theorem g104 : Try.prog.eqGuardType Try.prog.depth 104 = false := by kernel_rfl
theorem s105 : szT Try.prog 105 = some 6 := by kernel_rfl
theorem b105 : byT Try.prog 105 = some 48 := by kernel_rfl
theorem a105 : aggT Try.prog 105 = some true := by kernel_rfl
theorem g105 : Try.prog.eqGuardType Try.prog.depth 105 = false := by kernel_rfl
theorem h105 : Try.prog.stoodInHeld 105 = false := by kernel_rfl
theorem z105 : zT Try.prog 105 = some (.agg [.int .i64 0, .int .i64 0, .int .i64 0, .int .i64 0, .int .i64 0, .int .i64 0]) := by kernel_rfl
theorem s106 : szT Try.prog 106 = some 6 := by kernel_rfl
theorem b106 : byT Try.prog 106 = some 48 := by kernel_rfl
theorem a106 : aggT Try.prog 106 = some true := by kernel_rfl
theorem g106 : Try.prog.eqGuardType Try.prog.depth 106 = false := by kernel_rfl
theorem h106 : Try.prog.stoodInHeld 106 = false := by kernel_rfl
theorem z106 : zT Try.prog 106 = some (.agg [.int .i64 0, .int .i64 0, .int .i64 0, .int .i64 0, .int .i64 0, .int .i64 0]) := by kernel_rfl
theorem g108 : Try.prog.eqGuardType Try.prog.depth 108 = false := by kernel_rfl
theorem g109 : Try.prog.eqGuardType Try.prog.depth 109 = false := by kernel_rfl
theorem g111 : Try.prog.eqGuardType Try.prog.depth 111 = false := by kernel_rfl
theorem g112 : Try.prog.eqGuardType Try.prog.depth 112 = false := by kernel_rfl
theorem g113 : Try.prog.eqGuardType Try.prog.depth 113 = false := by kernel_rfl
theorem s114 : szT Try.prog 114 = some 2 := by kernel_rfl
theorem b114 : byT Try.prog 114 = some 16 := by kernel_rfl
theorem a114 : aggT Try.prog 114 = some true := by kernel_rfl
theorem g114 : Try.prog.eqGuardType Try.prog.depth 114 = false := by kernel_rfl
theorem h114 : Try.prog.stoodInHeld 114 = false := by kernel_rfl
theorem z114 : zT Try.prog 114 = some (.agg [.int .i64 0, .int .i64 0]) := by kernel_rfl
theorem s115 : szT Try.prog 115 = some 2 := by kernel_rfl
theorem b115 : byT Try.prog 115 = some 16 := by kernel_rfl
theorem a115 : aggT Try.prog 115 = some true := by kernel_rfl
theorem g115 : Try.prog.eqGuardType Try.prog.depth 115 = false := by kernel_rfl
theorem h115 : Try.prog.stoodInHeld 115 = false := by kernel_rfl
theorem z115 : zT Try.prog 115 = some (.agg [.int .i64 0, .int .i64 0]) := by kernel_rfl
theorem g117 : Try.prog.eqGuardType Try.prog.depth 117 = false := by kernel_rfl
theorem g118 : Try.prog.eqGuardType Try.prog.depth 118 = false := by kernel_rfl
theorem g119 : Try.prog.eqGuardType Try.prog.depth 119 = false := by kernel_rfl
theorem g120 : Try.prog.eqGuardType Try.prog.depth 120 = false := by kernel_rfl
theorem g121 : Try.prog.eqGuardType Try.prog.depth 121 = false := by kernel_rfl
theorem g122 : Try.prog.eqGuardType Try.prog.depth 122 = false := by kernel_rfl
theorem g123 : Try.prog.eqGuardType Try.prog.depth 123 = false := by kernel_rfl
theorem g124 : Try.prog.eqGuardType Try.prog.depth 124 = false := by kernel_rfl
theorem g125 : Try.prog.eqGuardType Try.prog.depth 125 = false := by kernel_rfl
theorem g126 : Try.prog.eqGuardType Try.prog.depth 126 = false := by kernel_rfl
theorem g127 : Try.prog.eqGuardType Try.prog.depth 127 = false := by kernel_rfl
theorem g129 : Try.prog.eqGuardType Try.prog.depth 129 = false := by kernel_rfl
theorem g130 : Try.prog.eqGuardType Try.prog.depth 130 = false := by kernel_rfl
theorem g131 : Try.prog.eqGuardType Try.prog.depth 131 = false := by kernel_rfl
theorem s131 : szT Try.prog 131 = some 1 := by kernel_rfl
theorem b131 : byT Try.prog 131 = some 24 := by kernel_rfl
theorem a131 : aggT Try.prog 131 = some false := by kernel_rfl
theorem z131 : zT Try.prog 131 = some (.nils) := by kernel_rfl
theorem g132 : Try.prog.eqGuardType Try.prog.depth 132 = false := by kernel_rfl
theorem s132 : szT Try.prog 132 = some 1 := by kernel_rfl
theorem b132 : byT Try.prog 132 = some 8 := by kernel_rfl
theorem a132 : aggT Try.prog 132 = some false := by kernel_rfl
theorem z132 : zT Try.prog 132 = some (.nilp) := by kernel_rfl
theorem g133 : Try.prog.eqGuardType Try.prog.depth 133 = false := by kernel_rfl
theorem g134 : Try.prog.eqGuardType Try.prog.depth 134 = false := by kernel_rfl
theorem g135 : Try.prog.eqGuardType Try.prog.depth 135 = false := by kernel_rfl
theorem g136 : Try.prog.eqGuardType Try.prog.depth 136 = false := by kernel_rfl
theorem g137 : Try.prog.eqGuardType Try.prog.depth 137 = false := by kernel_rfl
theorem g139 : Try.prog.eqGuardType Try.prog.depth 139 = false := by kernel_rfl
theorem g140 : Try.prog.eqGuardType Try.prog.depth 140 = false := by kernel_rfl
theorem s141 : szT Try.prog 141 = some 1 := by kernel_rfl
theorem b141 : byT Try.prog 141 = some 8 := by kernel_rfl
theorem a141 : aggT Try.prog 141 = some false := by kernel_rfl
theorem z141 : zT Try.prog 141 = some (.int .u64 0) := by kernel_rfl
theorem g142 : Try.prog.eqGuardType Try.prog.depth 142 = false := by kernel_rfl
theorem g144 : Try.prog.eqGuardType Try.prog.depth 144 = false := by kernel_rfl
theorem g145 : Try.prog.eqGuardType Try.prog.depth 145 = false := by kernel_rfl
theorem s146 : szT Try.prog 146 = some 3 := by kernel_rfl
theorem b146 : byT Try.prog 146 = some 48 := by kernel_rfl
theorem a146 : aggT Try.prog 146 = some true := by kernel_rfl
theorem g146 : Try.prog.eqGuardType Try.prog.depth 146 = false := by kernel_rfl
theorem h146 : Try.prog.stoodInHeld 146 = false := by kernel_rfl
theorem z146 : zT Try.prog 146 = some (.agg [.str [], .str [], .str []]) := by kernel_rfl
theorem g147 : Try.prog.eqGuardType Try.prog.depth 147 = false := by kernel_rfl
theorem s148 : szT Try.prog 148 = some 7 := by kernel_rfl
theorem b148 : byT Try.prog 148 = some 112 := by kernel_rfl
theorem a148 : aggT Try.prog 148 = some true := by kernel_rfl
theorem g148 : Try.prog.eqGuardType Try.prog.depth 148 = false := by kernel_rfl
theorem h148 : Try.prog.stoodInHeld 148 = false := by kernel_rfl
theorem z148 : zT Try.prog 148 = some (.agg [.str [], .str [], .str [], .str [], .str [], .str [], .str []]) := by kernel_rfl
theorem g149 : Try.prog.eqGuardType Try.prog.depth 149 = false := by kernel_rfl
theorem g150 : Try.prog.eqGuardType Try.prog.depth 150 = false := by kernel_rfl
theorem g151 : Try.prog.eqGuardType Try.prog.depth 151 = false := by kernel_rfl
theorem g152 : Try.prog.eqGuardType Try.prog.depth 152 = false := by kernel_rfl
theorem g153 : Try.prog.eqGuardType Try.prog.depth 153 = false := by kernel_rfl
theorem g154 : Try.prog.eqGuardType Try.prog.depth 154 = false := by kernel_rfl
theorem g155 : Try.prog.eqGuardType Try.prog.depth 155 = false := by kernel_rfl
theorem g156 : Try.prog.eqGuardType Try.prog.depth 156 = false := by kernel_rfl
theorem g157 : Try.prog.eqGuardType Try.prog.depth 157 = false := by kernel_rfl
theorem g158 : Try.prog.eqGuardType Try.prog.depth 158 = false := by kernel_rfl
theorem g159 : Try.prog.eqGuardType Try.prog.depth 159 = false := by kernel_rfl
theorem g160 : Try.prog.eqGuardType Try.prog.depth 160 = false := by kernel_rfl
theorem s160 : szT Try.prog 160 = some 1 := by kernel_rfl
theorem b160 : byT Try.prog 160 = some 8 := by kernel_rfl
theorem a160 : aggT Try.prog 160 = some false := by kernel_rfl
theorem z160 : zT Try.prog 160 = some (.nilp) := by kernel_rfl
theorem s161 : szT Try.prog 161 = some 3 := by kernel_rfl
theorem b161 : byT Try.prog 161 = some 24 := by kernel_rfl
theorem a161 : aggT Try.prog 161 = some true := by kernel_rfl
theorem z161 : zT Try.prog 161 = some (.agg [.nilp, .int .i64 0, .int .i64 0]) := by kernel_rfl
theorem s162 : szT Try.prog 162 = some 3 := by kernel_rfl
theorem b162 : byT Try.prog 162 = some 24 := by kernel_rfl
theorem a162 : aggT Try.prog 162 = some true := by kernel_rfl
theorem z162 : zT Try.prog 162 = some (.agg [.nilp, .int .i64 0, .int .i64 0]) := by kernel_rfl
theorem s163 : szT Try.prog 163 = some 48 := by kernel_rfl
theorem b163 : byT Try.prog 163 = some 384 := by kernel_rfl
theorem a163 : aggT Try.prog 163 = some true := by kernel_rfl
theorem z163 : zT Try.prog 163 = some (.agg [.nilp, .int .i64 0, .int .i64 0, .nilp, .int .i64 0, .int .i64 0, .nilp, .int .i64 0, .int .i64 0, .nilp, .int .i64 0, .int .i64 0, .nilp, .int .i64 0, .int .i64 0, .nilp, .int .i64 0, .int .i64 0, .nilp, .int .i64 0, .int .i64 0, .nilp, .int .i64 0, .int .i64 0, .nilp, .int .i64 0, .int .i64 0, .nilp, .int .i64 0, .int .i64 0, .nilp, .int .i64 0, .int .i64 0, .nilp, .int .i64 0, .int .i64 0, .nilp, .int .i64 0, .int .i64 0, .nilp, .int .i64 0, .int .i64 0, .nilp, .int .i64 0, .int .i64 0, .nilp, .int .i64 0, .int .i64 0]) := by kernel_rfl
theorem g164 : Try.prog.eqGuardType Try.prog.depth 164 = false := by kernel_rfl
theorem g165 : Try.prog.eqGuardType Try.prog.depth 165 = false := by kernel_rfl
theorem s165 : szT Try.prog 165 = some 1 := by kernel_rfl
theorem b165 : byT Try.prog 165 = some 8 := by kernel_rfl
theorem a165 : aggT Try.prog 165 = some false := by kernel_rfl
theorem z165 : zT Try.prog 165 = some (.nilp) := by kernel_rfl
theorem g166 : Try.prog.eqGuardType Try.prog.depth 166 = false := by kernel_rfl
theorem g167 : Try.prog.eqGuardType Try.prog.depth 167 = false := by kernel_rfl
theorem g169 : Try.prog.eqGuardType Try.prog.depth 169 = false := by kernel_rfl
theorem g170 : Try.prog.eqGuardType Try.prog.depth 170 = false := by kernel_rfl
theorem g171 : Try.prog.eqGuardType Try.prog.depth 171 = false := by kernel_rfl
theorem g172 : Try.prog.eqGuardType Try.prog.depth 172 = false := by kernel_rfl
theorem s172 : szT Try.prog 172 = some 1 := by kernel_rfl
theorem b172 : byT Try.prog 172 = some 8 := by kernel_rfl
theorem a172 : aggT Try.prog 172 = some false := by kernel_rfl
theorem z172 : zT Try.prog 172 = some (.nilp) := by kernel_rfl
theorem g173 : Try.prog.eqGuardType Try.prog.depth 173 = false := by kernel_rfl
theorem s174 : szT Try.prog 174 = some 10 := by kernel_rfl
theorem b174 : byT Try.prog 174 = some 80 := by kernel_rfl
theorem a174 : aggT Try.prog 174 = some true := by kernel_rfl
theorem g174 : Try.prog.eqGuardType Try.prog.depth 174 = false := by kernel_rfl
theorem h174 : Try.prog.stoodInHeld 174 = false := by kernel_rfl
theorem z174 : zT Try.prog 174 = some (.agg [.str [], .int .i64 0, .int .i64 0, .int .i64 0, .int .i64 0, .int .i64 0, .int .i64 0, .int .i64 0, .bool false, .bool false]) := by kernel_rfl
theorem s175 : szT Try.prog 175 = some 10 := by kernel_rfl
theorem b175 : byT Try.prog 175 = some 80 := by kernel_rfl
theorem a175 : aggT Try.prog 175 = some true := by kernel_rfl
theorem g175 : Try.prog.eqGuardType Try.prog.depth 175 = false := by kernel_rfl
theorem h175 : Try.prog.stoodInHeld 175 = false := by kernel_rfl
theorem z175 : zT Try.prog 175 = some (.agg [.str [], .int .i64 0, .int .i64 0, .int .i64 0, .int .i64 0, .int .i64 0, .int .i64 0, .int .i64 0, .bool false, .bool false]) := by kernel_rfl
theorem g176 : Try.prog.eqGuardType Try.prog.depth 176 = false := by kernel_rfl
theorem g177 : Try.prog.eqGuardType Try.prog.depth 177 = false := by kernel_rfl
theorem g178 : Try.prog.eqGuardType Try.prog.depth 178 = false := by kernel_rfl
theorem g179 : Try.prog.eqGuardType Try.prog.depth 179 = false := by kernel_rfl
theorem g181 : Try.prog.eqGuardType Try.prog.depth 181 = false := by kernel_rfl
theorem g182 : Try.prog.eqGuardType Try.prog.depth 182 = false := by kernel_rfl
theorem s183 : szT Try.prog 183 = some 12 := by kernel_rfl
theorem b183 : byT Try.prog 183 = some 192 := by kernel_rfl
theorem a183 : aggT Try.prog 183 = some true := by kernel_rfl
theorem g183 : Try.prog.eqGuardType Try.prog.depth 183 = false := by kernel_rfl
theorem h183 : Try.prog.stoodInHeld 183 = false := by kernel_rfl
theorem z183 : zT Try.prog 183 = some (.agg [.str [], .str [], .str [], .str [], .str [], .str [], .str [], .str [], .str [], .str [], .str [], .str []]) := by kernel_rfl
theorem g184 : Try.prog.eqGuardType Try.prog.depth 184 = false := by kernel_rfl
theorem g185 : Try.prog.eqGuardType Try.prog.depth 185 = false := by kernel_rfl
theorem g186 : Try.prog.eqGuardType Try.prog.depth 186 = false := by kernel_rfl
theorem g187 : Try.prog.eqGuardType Try.prog.depth 187 = false := by kernel_rfl
theorem g188 : Try.prog.eqGuardType Try.prog.depth 188 = false := by kernel_rfl
theorem s189 : szT Try.prog 189 = some 5 := by kernel_rfl
theorem b189 : byT Try.prog 189 = some 80 := by kernel_rfl
theorem a189 : aggT Try.prog 189 = some true := by kernel_rfl
theorem g189 : Try.prog.eqGuardType Try.prog.depth 189 = false := by kernel_rfl
theorem h189 : Try.prog.stoodInHeld 189 = false := by kernel_rfl
theorem z189 : zT Try.prog 189 = some (.agg [.str [], .str [], .str [], .str [], .str []]) := by kernel_rfl
theorem g190 : Try.prog.eqGuardType Try.prog.depth 190 = false := by kernel_rfl
theorem s191 : szT Try.prog 191 = some 3 := by kernel_rfl
theorem b191 : byT Try.prog 191 = some 16 := by kernel_rfl
theorem a191 : aggT Try.prog 191 = some true := by kernel_rfl
theorem g191 : Try.prog.eqGuardType Try.prog.depth 191 = false := by kernel_rfl
theorem h191 : Try.prog.stoodInHeld 191 = false := by kernel_rfl
theorem z191 : zT Try.prog 191 = some (.agg [.bool false, .bool false, .int .i64 0]) := by kernel_rfl
theorem s192 : szT Try.prog 192 = some 3 := by kernel_rfl
theorem b192 : byT Try.prog 192 = some 16 := by kernel_rfl
theorem a192 : aggT Try.prog 192 = some true := by kernel_rfl
theorem g192 : Try.prog.eqGuardType Try.prog.depth 192 = false := by kernel_rfl
theorem h192 : Try.prog.stoodInHeld 192 = false := by kernel_rfl
theorem z192 : zT Try.prog 192 = some (.agg [.bool false, .bool false, .int .i64 0]) := by kernel_rfl
theorem g193 : Try.prog.eqGuardType Try.prog.depth 193 = false := by kernel_rfl
theorem g194 : Try.prog.eqGuardType Try.prog.depth 194 = false := by kernel_rfl
theorem g195 : Try.prog.eqGuardType Try.prog.depth 195 = false := by kernel_rfl
theorem s195 : szT Try.prog 195 = some 1 := by kernel_rfl
theorem b195 : byT Try.prog 195 = some 8 := by kernel_rfl
theorem a195 : aggT Try.prog 195 = some false := by kernel_rfl
theorem z195 : zT Try.prog 195 = some (.nilp) := by kernel_rfl
theorem s196 : szT Try.prog 196 = some 2 := by kernel_rfl
theorem b196 : byT Try.prog 196 = some 32 := by kernel_rfl
theorem a196 : aggT Try.prog 196 = some true := by kernel_rfl
theorem z196 : zT Try.prog 196 = some (.agg [.nilp, .nils]) := by kernel_rfl
theorem s197 : szT Try.prog 197 = some 2 := by kernel_rfl
theorem b197 : byT Try.prog 197 = some 32 := by kernel_rfl
theorem a197 : aggT Try.prog 197 = some true := by kernel_rfl
theorem z197 : zT Try.prog 197 = some (.agg [.nilp, .nils]) := by kernel_rfl
theorem s198 : szT Try.prog 198 = some 1 := by kernel_rfl
theorem b198 : byT Try.prog 198 = some 16 := by kernel_rfl
theorem a198 : aggT Try.prog 198 = some false := by kernel_rfl
theorem z198 : zT Try.prog 198 = some (.nili) := by kernel_rfl
theorem s199 : szT Try.prog 199 = some 1 := by kernel_rfl
theorem b199 : byT Try.prog 199 = some 16 := by kernel_rfl
theorem a199 : aggT Try.prog 199 = some false := by kernel_rfl
theorem z199 : zT Try.prog 199 = some (.nili) := by kernel_rfl
theorem g201 : Try.prog.eqGuardType Try.prog.depth 201 = false := by kernel_rfl
theorem g202 : Try.prog.eqGuardType Try.prog.depth 202 = false := by kernel_rfl
theorem g203 : Try.prog.eqGuardType Try.prog.depth 203 = false := by kernel_rfl
theorem g204 : Try.prog.eqGuardType Try.prog.depth 204 = false := by kernel_rfl
theorem g205 : Try.prog.eqGuardType Try.prog.depth 205 = false := by kernel_rfl
theorem s206 : szT Try.prog 206 = some 2 := by kernel_rfl
theorem b206 : byT Try.prog 206 = some 24 := by kernel_rfl
theorem a206 : aggT Try.prog 206 = some true := by kernel_rfl
theorem g206 : Try.prog.eqGuardType Try.prog.depth 206 = false := by kernel_rfl
theorem h206 : Try.prog.stoodInHeld 206 = false := by kernel_rfl
theorem z206 : zT Try.prog 206 = some (.agg [.str [], .int .i64 0]) := by kernel_rfl
theorem s207 : szT Try.prog 207 = some 2 := by kernel_rfl
theorem b207 : byT Try.prog 207 = some 24 := by kernel_rfl
theorem a207 : aggT Try.prog 207 = some true := by kernel_rfl
theorem g207 : Try.prog.eqGuardType Try.prog.depth 207 = false := by kernel_rfl
theorem h207 : Try.prog.stoodInHeld 207 = false := by kernel_rfl
theorem z207 : zT Try.prog 207 = some (.agg [.str [], .int .i64 0]) := by kernel_rfl
theorem g208 : Try.prog.eqGuardType Try.prog.depth 208 = false := by kernel_rfl
theorem g209 : Try.prog.eqGuardType Try.prog.depth 209 = false := by kernel_rfl
theorem g211 : Try.prog.eqGuardType Try.prog.depth 211 = false := by kernel_rfl
theorem g212 : Try.prog.eqGuardType Try.prog.depth 212 = false := by kernel_rfl
theorem g213 : Try.prog.eqGuardType Try.prog.depth 213 = false := by kernel_rfl
theorem g214 : Try.prog.eqGuardType Try.prog.depth 214 = false := by kernel_rfl
theorem g215 : Try.prog.eqGuardType Try.prog.depth 215 = false := by kernel_rfl
theorem s215 : szT Try.prog 215 = some 1 := by kernel_rfl
theorem b215 : byT Try.prog 215 = some 8 := by kernel_rfl
theorem a215 : aggT Try.prog 215 = some false := by kernel_rfl
theorem z215 : zT Try.prog 215 = some (.nilp) := by kernel_rfl
theorem g216 : Try.prog.eqGuardType Try.prog.depth 216 = false := by kernel_rfl
theorem g217 : Try.prog.eqGuardType Try.prog.depth 217 = false := by kernel_rfl
theorem g219 : Try.prog.eqGuardType Try.prog.depth 219 = false := by kernel_rfl
theorem g220 : Try.prog.eqGuardType Try.prog.depth 220 = false := by kernel_rfl
theorem g221 : Try.prog.eqGuardType Try.prog.depth 221 = false := by kernel_rfl
theorem g222 : Try.prog.eqGuardType Try.prog.depth 222 = false := by kernel_rfl
theorem g223 : Try.prog.eqGuardType Try.prog.depth 223 = false := by kernel_rfl
theorem s223 : szT Try.prog 223 = some 1 := by kernel_rfl
theorem b223 : byT Try.prog 223 = some 8 := by kernel_rfl
theorem a223 : aggT Try.prog 223 = some false := by kernel_rfl
theorem z223 : zT Try.prog 223 = some (.nilp) := by kernel_rfl
theorem g224 : Try.prog.eqGuardType Try.prog.depth 224 = false := by kernel_rfl
theorem s224 : szT Try.prog 224 = some 1 := by kernel_rfl
theorem b224 : byT Try.prog 224 = some 8 := by kernel_rfl
theorem a224 : aggT Try.prog 224 = some false := by kernel_rfl
theorem z224 : zT Try.prog 224 = some (.nilp) := by kernel_rfl
theorem s225 : szT Try.prog 225 = some 64 := by kernel_rfl
theorem b225 : byT Try.prog 225 = some 64 := by kernel_rfl
theorem a225 : aggT Try.prog 225 = some true := by kernel_rfl
theorem g225 : Try.prog.eqGuardType Try.prog.depth 225 = false := by kernel_rfl
theorem h225 : Try.prog.stoodInHeld 225 = false := by kernel_rfl
theorem z225 : zT Try.prog 225 = some (.agg [.int .u8 0, .int .u8 0, .int .u8 0, .int .u8 0, .int .u8 0, .int .u8 0, .int .u8 0, .int .u8 0, .int .u8 0, .int .u8 0, .int .u8 0, .int .u8 0, .int .u8 0, .int .u8 0, .int .u8 0, .int .u8 0, .int .u8 0, .int .u8 0, .int .u8 0, .int .u8 0, .int .u8 0, .int .u8 0, .int .u8 0, .int .u8 0, .int .u8 0, .int .u8 0, .int .u8 0, .int .u8 0, .int .u8 0, .int .u8 0, .int .u8 0, .int .u8 0, .int .u8 0, .int .u8 0, .int .u8 0, .int .u8 0, .int .u8 0, .int .u8 0, .int .u8 0, .int .u8 0, .int .u8 0, .int .u8 0, .int .u8 0, .int .u8 0, .int .u8 0, .int .u8 0, .int .u8 0, .int .u8 0, .int .u8 0, .int .u8 0, .int .u8 0, .int .u8 0, .int .u8 0, .int .u8 0, .int .u8 0, .int .u8 0, .int .u8 0, .int .u8 0, .int .u8 0, .int .u8 0, .int .u8 0, .int .u8 0, .int .u8 0, .int .u8 0]) := by kernel_rfl
theorem s226 : szT Try.prog 226 = some 1 := by kernel_rfl
theorem b226 : byT Try.prog 226 = some 8 := by kernel_rfl
theorem a226 : aggT Try.prog 226 = some false := by kernel_rfl
theorem z226 : zT Try.prog 226 = some (.int .u64 0) := by kernel_rfl
theorem g228 : Try.prog.eqGuardType Try.prog.depth 228 = false := by kernel_rfl
theorem g229 : Try.prog.eqGuardType Try.prog.depth 229 = false := by kernel_rfl
theorem g230 : Try.prog.eqGuardType Try.prog.depth 230 = false := by kernel_rfl
theorem g232 : Try.prog.eqGuardType Try.prog.depth 232 = false := by kernel_rfl
theorem g233 : Try.prog.eqGuardType Try.prog.depth 233 = false := by kernel_rfl
theorem s234 : szT Try.prog 234 = some 1 := by kernel_rfl
theorem b234 : byT Try.prog 234 = some 4 := by kernel_rfl
theorem a234 : aggT Try.prog 234 = some false := by kernel_rfl
theorem z234 : zT Try.prog 234 = some (.int .u32 0) := by kernel_rfl
theorem g236 : Try.prog.eqGuardType Try.prog.depth 236 = false := by kernel_rfl
theorem g238 : Try.prog.eqGuardType Try.prog.depth 238 = false := by kernel_rfl
theorem s239 : szT Try.prog 239 = some 12 := by kernel_rfl
theorem b239 : byT Try.prog 239 = some 96 := by kernel_rfl
theorem a239 : aggT Try.prog 239 = some true := by kernel_rfl
theorem g239 : Try.prog.eqGuardType Try.prog.depth 239 = false := by kernel_rfl
theorem h239 : Try.prog.stoodInHeld 239 = false := by kernel_rfl
theorem z239 : zT Try.prog 239 = some (.agg [.int .i64 0, .int .i64 0, .int .i64 0, .int .i64 0, .int .i64 0, .int .i64 0, .int .i64 0, .int .i64 0, .int .i64 0, .int .i64 0, .int .i64 0, .int .i64 0]) := by kernel_rfl
theorem g240 : Try.prog.eqGuardType Try.prog.depth 240 = false := by kernel_rfl
theorem g241 : Try.prog.eqGuardType Try.prog.depth 241 = false := by kernel_rfl
theorem s242 : szT Try.prog 242 = some 4 := by kernel_rfl
theorem b242 : byT Try.prog 242 = some 40 := by kernel_rfl
theorem a242 : aggT Try.prog 242 = some true := by kernel_rfl
theorem z242 : zT Try.prog 242 = some (.agg [.nilp, .nilp, .nilp, .str []]) := by kernel_rfl
theorem s243 : szT Try.prog 243 = some 4 := by kernel_rfl
theorem b243 : byT Try.prog 243 = some 40 := by kernel_rfl
theorem a243 : aggT Try.prog 243 = some true := by kernel_rfl
theorem z243 : zT Try.prog 243 = some (.agg [.nilp, .nilp, .nilp, .str []]) := by kernel_rfl
theorem s244 : szT Try.prog 244 = some 0 := by kernel_rfl
theorem b244 : byT Try.prog 244 = some 0 := by kernel_rfl
theorem a244 : aggT Try.prog 244 = some true := by kernel_rfl
theorem z244 : zT Try.prog 244 = some (.agg []) := by kernel_rfl
theorem s245 : szT Try.prog 245 = some 0 := by kernel_rfl
theorem b245 : byT Try.prog 245 = some 0 := by kernel_rfl
theorem a245 : aggT Try.prog 245 = some true := by kernel_rfl
theorem z245 : zT Try.prog 245 = some (.agg []) := by kernel_rfl
theorem s246 : szT Try.prog 246 = some 0 := by kernel_rfl
theorem b246 : byT Try.prog 246 = some 0 := by kernel_rfl
theorem a246 : aggT Try.prog 246 = some true := by kernel_rfl
theorem z246 : zT Try.prog 246 = some (.agg []) := by kernel_rfl
theorem s247 : szT Try.prog 247 = some 1 := by kernel_rfl
theorem b247 : byT Try.prog 247 = some 1 := by kernel_rfl
theorem a247 : aggT Try.prog 247 = some false := by kernel_rfl
theorem z247 : zT Try.prog 247 = some (.int .u8 0) := by kernel_rfl
theorem s248 : szT Try.prog 248 = some 1 := by kernel_rfl
theorem b248 : byT Try.prog 248 = some 1 := by kernel_rfl
theorem a248 : aggT Try.prog 248 = some false := by kernel_rfl
theorem z248 : zT Try.prog 248 = some (.int .u8 0) := by kernel_rfl
theorem g249 : Try.prog.eqGuardType Try.prog.depth 249 = false := by kernel_rfl
theorem s250 : szT Try.prog 250 = some 1 := by kernel_rfl
theorem b250 : byT Try.prog 250 = some 4 := by kernel_rfl
theorem a250 : aggT Try.prog 250 = some false := by kernel_rfl
theorem z250 : zT Try.prog 250 = some (.int .i32 0) := by kernel_rfl
theorem s251 : szT Try.prog 251 = some 1 := by kernel_rfl
theorem b251 : byT Try.prog 251 = some 4 := by kernel_rfl
theorem a251 : aggT Try.prog 251 = some false := by kernel_rfl
theorem z251 : zT Try.prog 251 = some (.int .i32 0) := by kernel_rfl
theorem s252 : szT Try.prog 252 = some 11 := by kernel_rfl
theorem b252 : byT Try.prog 252 = some 48 := by kernel_rfl
theorem a252 : aggT Try.prog 252 = some true := by kernel_rfl
theorem z252 : zT Try.prog 252 = some (.agg [.int .u64 0, .int .u64 0, .int .u32 0, .int .u8 0, .int .u8 0, .int .u8 0, .int .u8 0, .nilf, .nilp, .int .i32 0, .int .i32 0]) := by kernel_rfl
theorem s253 : szT Try.prog 253 = some 11 := by kernel_rfl
theorem b253 : byT Try.prog 253 = some 48 := by kernel_rfl
theorem a253 : aggT Try.prog 253 = some true := by kernel_rfl
theorem z253 : zT Try.prog 253 = some (.agg [.int .u64 0, .int .u64 0, .int .u32 0, .int .u8 0, .int .u8 0, .int .u8 0, .int .u8 0, .nilf, .nilp, .int .i32 0, .int .i32 0]) := by kernel_rfl
end Go.Proofs.Try.Ty
