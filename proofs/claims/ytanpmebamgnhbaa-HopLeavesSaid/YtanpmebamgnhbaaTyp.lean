/- Facts about the seat's types. No condition. -/
import Derived.Test.YtanpmebamgnhbaaAbsT
import Derived.Test.YtanpmebamgnhbaaProg
import Derived.KernelRfl
set_option linter.unusedVariables false
namespace Go.Proofs.Try.Ty
open Go Go.Abs Go.Proofs

theorem mixed : Try.prog.follows .mixedOrders = true := by kernel_rfl
theorem g1 : Try.prog.eqGuardType Try.prog.depth 1 = false := by kernel_rfl
theorem s2 : szT Try.prog 2 = some 1 := by kernel_rfl
theorem b2 : byT Try.prog 2 = some 8 := by kernel_rfl
theorem a2 : aggT Try.prog 2 = some false := by kernel_rfl
theorem z2 : zT Try.prog 2 = some (.int .i64 0) := by kernel_rfl
theorem s3 : szT Try.prog 3 = some 1 := by kernel_rfl
theorem b3 : byT Try.prog 3 = some 8 := by kernel_rfl
theorem a3 : aggT Try.prog 3 = some false := by kernel_rfl
theorem z3 : zT Try.prog 3 = some (.int .i64 0) := by kernel_rfl
theorem s4 : szT Try.prog 4 = some 1 := by kernel_rfl
theorem b4 : byT Try.prog 4 = some 1 := by kernel_rfl
theorem a4 : aggT Try.prog 4 = some false := by kernel_rfl
theorem z4 : zT Try.prog 4 = some (.bool false) := by kernel_rfl
theorem s5 : szT Try.prog 5 = some 1 := by kernel_rfl
theorem b5 : byT Try.prog 5 = some 1 := by kernel_rfl
theorem a5 : aggT Try.prog 5 = some false := by kernel_rfl
theorem z5 : zT Try.prog 5 = some (.int .u8 0) := by kernel_rfl
theorem s6 : szT Try.prog 6 = some 1 := by kernel_rfl
theorem b6 : byT Try.prog 6 = some 1 := by kernel_rfl
theorem a6 : aggT Try.prog 6 = some false := by kernel_rfl
theorem z6 : zT Try.prog 6 = some (.int .u8 0) := by kernel_rfl
theorem s7 : szT Try.prog 7 = some 4 := by kernel_rfl
theorem b7 : byT Try.prog 7 = some 24 := by kernel_rfl
theorem a7 : aggT Try.prog 7 = some true := by kernel_rfl
theorem g7 : Try.prog.eqGuardType Try.prog.depth 7 = false := by kernel_rfl
theorem h7 : Try.prog.stoodInHeld 7 = false := by kernel_rfl
theorem z7 : zT Try.prog 7 = some (.agg [.int .i64 0, .int .i64 0, .bool false, .int .u8 0]) := by kernel_rfl
theorem s8 : szT Try.prog 8 = some 4 := by kernel_rfl
theorem b8 : byT Try.prog 8 = some 24 := by kernel_rfl
theorem a8 : aggT Try.prog 8 = some true := by kernel_rfl
theorem g8 : Try.prog.eqGuardType Try.prog.depth 8 = false := by kernel_rfl
theorem h8 : Try.prog.stoodInHeld 8 = false := by kernel_rfl
theorem z8 : zT Try.prog 8 = some (.agg [.int .i64 0, .int .i64 0, .bool false, .int .u8 0]) := by kernel_rfl
theorem s9 : szT Try.prog 9 = some 1 := by kernel_rfl
theorem b9 : byT Try.prog 9 = some 16 := by kernel_rfl
theorem a9 : aggT Try.prog 9 = some false := by kernel_rfl
theorem z9 : zT Try.prog 9 = some (.str []) := by kernel_rfl
theorem s10 : szT Try.prog 10 = some 1 := by kernel_rfl
theorem b10 : byT Try.prog 10 = some 16 := by kernel_rfl
theorem a10 : aggT Try.prog 10 = some false := by kernel_rfl
theorem z10 : zT Try.prog 10 = some (.str []) := by kernel_rfl
theorem s11 : szT Try.prog 11 = some 1 := by kernel_rfl
theorem b11 : byT Try.prog 11 = some 16 := by kernel_rfl
theorem a11 : aggT Try.prog 11 = some false := by kernel_rfl
theorem z11 : zT Try.prog 11 = some (.str []) := by kernel_rfl
theorem s12 : szT Try.prog 12 = some 1 := by kernel_rfl
theorem b12 : byT Try.prog 12 = some 8 := by kernel_rfl
theorem a12 : aggT Try.prog 12 = some false := by kernel_rfl
theorem z12 : zT Try.prog 12 = some (.int .u64 0) := by kernel_rfl
theorem s13 : szT Try.prog 13 = some 2 := by kernel_rfl
theorem b13 : byT Try.prog 13 = some 24 := by kernel_rfl
theorem a13 : aggT Try.prog 13 = some true := by kernel_rfl
theorem z13 : zT Try.prog 13 = some (.agg [.str [], .int .u64 0]) := by kernel_rfl
theorem s14 : szT Try.prog 14 = some 2 := by kernel_rfl
theorem b14 : byT Try.prog 14 = some 24 := by kernel_rfl
theorem a14 : aggT Try.prog 14 = some true := by kernel_rfl
theorem z14 : zT Try.prog 14 = some (.agg [.str [], .int .u64 0]) := by kernel_rfl
theorem g15 : Try.prog.eqGuardType Try.prog.depth 15 = false := by kernel_rfl
theorem s15 : szT Try.prog 15 = some 1 := by kernel_rfl
theorem b15 : byT Try.prog 15 = some 8 := by kernel_rfl
theorem a15 : aggT Try.prog 15 = some false := by kernel_rfl
theorem z15 : zT Try.prog 15 = some (.nilp) := by kernel_rfl
theorem g16 : Try.prog.eqGuardType Try.prog.depth 16 = false := by kernel_rfl
theorem s16 : szT Try.prog 16 = some 1 := by kernel_rfl
theorem b16 : byT Try.prog 16 = some 8 := by kernel_rfl
theorem a16 : aggT Try.prog 16 = some false := by kernel_rfl
theorem z16 : zT Try.prog 16 = some (.nilp) := by kernel_rfl
theorem g17 : Try.prog.eqGuardType Try.prog.depth 17 = false := by kernel_rfl
theorem s17 : szT Try.prog 17 = some 1 := by kernel_rfl
theorem b17 : byT Try.prog 17 = some 8 := by kernel_rfl
theorem a17 : aggT Try.prog 17 = some false := by kernel_rfl
theorem z17 : zT Try.prog 17 = some (.nilp) := by kernel_rfl
theorem s18 : szT Try.prog 18 = some 1 := by kernel_rfl
theorem b18 : byT Try.prog 18 = some 8 := by kernel_rfl
theorem a18 : aggT Try.prog 18 = some true := by kernel_rfl
theorem z18 : zT Try.prog 18 = some (.agg [.nilp]) := by kernel_rfl
theorem s19 : szT Try.prog 19 = some 1 := by kernel_rfl
theorem b19 : byT Try.prog 19 = some 8 := by kernel_rfl
theorem a19 : aggT Try.prog 19 = some true := by kernel_rfl
theorem z19 : zT Try.prog 19 = some (.agg [.nilp]) := by kernel_rfl
theorem s20 : szT Try.prog 20 = some 1 := by kernel_rfl
theorem b20 : byT Try.prog 20 = some 16 := by kernel_rfl
theorem a20 : aggT Try.prog 20 = some false := by kernel_rfl
theorem z20 : zT Try.prog 20 = some (.nili) := by kernel_rfl
theorem s21 : szT Try.prog 21 = some 1 := by kernel_rfl
theorem b21 : byT Try.prog 21 = some 4 := by kernel_rfl
theorem a21 : aggT Try.prog 21 = some false := by kernel_rfl
theorem z21 : zT Try.prog 21 = some (.int .i32 0) := by kernel_rfl
theorem g22 : Try.prog.eqGuardType Try.prog.depth 22 = false := by kernel_rfl
theorem s22 : szT Try.prog 22 = some 1 := by kernel_rfl
theorem b22 : byT Try.prog 22 = some 24 := by kernel_rfl
theorem a22 : aggT Try.prog 22 = some false := by kernel_rfl
theorem z22 : zT Try.prog 22 = some (.nils) := by kernel_rfl
theorem g24 : Try.prog.eqGuardType Try.prog.depth 24 = false := by kernel_rfl
theorem g25 : Try.prog.eqGuardType Try.prog.depth 25 = false := by kernel_rfl
theorem g26 : Try.prog.eqGuardType Try.prog.depth 26 = false := by kernel_rfl
theorem g27 : Try.prog.eqGuardType Try.prog.depth 27 = false := by kernel_rfl
theorem g28 : Try.prog.eqGuardType Try.prog.depth 28 = false := by kernel_rfl
theorem g29 : Try.prog.eqGuardType Try.prog.depth 29 = false := by kernel_rfl
theorem g30 : Try.prog.eqGuardType Try.prog.depth 30 = false := by kernel_rfl
theorem g31 : Try.prog.eqGuardType Try.prog.depth 31 = false := by kernel_rfl
theorem s32 : szT Try.prog 32 = some 1 := by kernel_rfl
theorem b32 : byT Try.prog 32 = some 8 := by kernel_rfl
theorem a32 : aggT Try.prog 32 = some false := by kernel_rfl
theorem z32 : zT Try.prog 32 = some (.int .i64 0) := by kernel_rfl
theorem g34 : Try.prog.eqGuardType Try.prog.depth 34 = false := by kernel_rfl
theorem g36 : Try.prog.eqGuardType Try.prog.depth 36 = false := by kernel_rfl
theorem g37 : Try.prog.eqGuardType Try.prog.depth 37 = false := by kernel_rfl
theorem g38 : Try.prog.eqGuardType Try.prog.depth 38 = false := by kernel_rfl
theorem g39 : Try.prog.eqGuardType Try.prog.depth 39 = false := by kernel_rfl
theorem g40 : Try.prog.eqGuardType Try.prog.depth 40 = false := by kernel_rfl
theorem s40 : szT Try.prog 40 = some 1 := by kernel_rfl
theorem b40 : byT Try.prog 40 = some 24 := by kernel_rfl
theorem a40 : aggT Try.prog 40 = some false := by kernel_rfl
theorem z40 : zT Try.prog 40 = some (.nils) := by kernel_rfl
theorem g42 : Try.prog.eqGuardType Try.prog.depth 42 = false := by kernel_rfl
theorem g43 : Try.prog.eqGuardType Try.prog.depth 43 = false := by kernel_rfl
theorem g44 : Try.prog.eqGuardType Try.prog.depth 44 = false := by kernel_rfl
theorem g45 : Try.prog.eqGuardType Try.prog.depth 45 = false := by kernel_rfl
theorem g46 : Try.prog.eqGuardType Try.prog.depth 46 = false := by kernel_rfl
theorem g47 : Try.prog.eqGuardType Try.prog.depth 47 = false := by kernel_rfl
theorem s48 : szT Try.prog 48 = some 2 := by kernel_rfl
theorem b48 : byT Try.prog 48 = some 32 := by kernel_rfl
theorem a48 : aggT Try.prog 48 = some true := by kernel_rfl
theorem g48 : Try.prog.eqGuardType Try.prog.depth 48 = false := by kernel_rfl
theorem h48 : Try.prog.stoodInHeld 48 = false := by kernel_rfl
theorem z48 : zT Try.prog 48 = some (.agg [.str [], .str []]) := by kernel_rfl
theorem s49 : szT Try.prog 49 = some 2 := by kernel_rfl
theorem b49 : byT Try.prog 49 = some 32 := by kernel_rfl
theorem a49 : aggT Try.prog 49 = some true := by kernel_rfl
theorem g49 : Try.prog.eqGuardType Try.prog.depth 49 = false := by kernel_rfl
theorem h49 : Try.prog.stoodInHeld 49 = false := by kernel_rfl
theorem z49 : zT Try.prog 49 = some (.agg [.str [], .str []]) := by kernel_rfl
theorem g50 : Try.prog.eqGuardType Try.prog.depth 50 = false := by kernel_rfl
theorem g52 : Try.prog.eqGuardType Try.prog.depth 52 = false := by kernel_rfl
theorem g53 : Try.prog.eqGuardType Try.prog.depth 53 = false := by kernel_rfl
theorem g54 : Try.prog.eqGuardType Try.prog.depth 54 = false := by kernel_rfl
theorem g55 : Try.prog.eqGuardType Try.prog.depth 55 = false := by kernel_rfl
theorem g56 : Try.prog.eqGuardType Try.prog.depth 56 = false := by kernel_rfl
theorem g57 : Try.prog.eqGuardType Try.prog.depth 57 = false := by kernel_rfl
theorem s57 : szT Try.prog 57 = some 1 := by kernel_rfl
theorem b57 : byT Try.prog 57 = some 24 := by kernel_rfl
theorem a57 : aggT Try.prog 57 = some false := by kernel_rfl
theorem z57 : zT Try.prog 57 = some (.nils) := by kernel_rfl
theorem g58 : Try.prog.eqGuardType Try.prog.depth 58 = false := by kernel_rfl
theorem g59 : Try.prog.eqGuardType Try.prog.depth 59 = false := by kernel_rfl
theorem g60 : Try.prog.eqGuardType Try.prog.depth 60 = false := by kernel_rfl
theorem s60 : szT Try.prog 60 = some 1 := by kernel_rfl
theorem b60 : byT Try.prog 60 = some 24 := by kernel_rfl
theorem a60 : aggT Try.prog 60 = some false := by kernel_rfl
theorem z60 : zT Try.prog 60 = some (.nils) := by kernel_rfl
theorem g61 : Try.prog.eqGuardType Try.prog.depth 61 = false := by kernel_rfl
theorem g62 : Try.prog.eqGuardType Try.prog.depth 62 = false := by kernel_rfl
theorem g63 : Try.prog.eqGuardType Try.prog.depth 63 = false := by kernel_rfl
theorem g64 : Try.prog.eqGuardType Try.prog.depth 64 = false := by kernel_rfl
theorem s65 : szT Try.prog 65 = some 3 := by kernel_rfl
theorem b65 : byT Try.prog 65 = some 40 := by kernel_rfl
theorem a65 : aggT Try.prog 65 = some true := by kernel_rfl
theorem g65 : Try.prog.eqGuardType Try.prog.depth 65 = false := by kernel_rfl
theorem h65 : Try.prog.stoodInHeld 65 = false := by kernel_rfl
theorem z65 : zT Try.prog 65 = some (.agg [.int .i64 0, .str [], .str []]) := by kernel_rfl
theorem s66 : szT Try.prog 66 = some 3 := by kernel_rfl
theorem b66 : byT Try.prog 66 = some 40 := by kernel_rfl
theorem a66 : aggT Try.prog 66 = some true := by kernel_rfl
theorem g66 : Try.prog.eqGuardType Try.prog.depth 66 = false := by kernel_rfl
theorem h66 : Try.prog.stoodInHeld 66 = false := by kernel_rfl
theorem z66 : zT Try.prog 66 = some (.agg [.int .i64 0, .str [], .str []]) := by kernel_rfl
theorem s67 : szT Try.prog 67 = some 2 := by kernel_rfl
theorem b67 : byT Try.prog 67 = some 24 := by kernel_rfl
theorem a67 : aggT Try.prog 67 = some true := by kernel_rfl
theorem g67 : Try.prog.eqGuardType Try.prog.depth 67 = false := by kernel_rfl
theorem h67 : Try.prog.stoodInHeld 67 = false := by kernel_rfl
theorem z67 : zT Try.prog 67 = some (.agg [.str [], .int .i64 0]) := by kernel_rfl
theorem s68 : szT Try.prog 68 = some 2 := by kernel_rfl
theorem b68 : byT Try.prog 68 = some 24 := by kernel_rfl
theorem a68 : aggT Try.prog 68 = some true := by kernel_rfl
theorem g68 : Try.prog.eqGuardType Try.prog.depth 68 = false := by kernel_rfl
theorem h68 : Try.prog.stoodInHeld 68 = false := by kernel_rfl
theorem z68 : zT Try.prog 68 = some (.agg [.str [], .int .i64 0]) := by kernel_rfl
theorem g70 : Try.prog.eqGuardType Try.prog.depth 70 = false := by kernel_rfl
theorem g71 : Try.prog.eqGuardType Try.prog.depth 71 = false := by kernel_rfl
theorem g72 : Try.prog.eqGuardType Try.prog.depth 72 = false := by kernel_rfl
theorem s73 : szT Try.prog 73 = some 2 := by kernel_rfl
theorem b73 : byT Try.prog 73 = some 32 := by kernel_rfl
theorem a73 : aggT Try.prog 73 = some true := by kernel_rfl
theorem g73 : Try.prog.eqGuardType Try.prog.depth 73 = false := by kernel_rfl
theorem h73 : Try.prog.stoodInHeld 73 = false := by kernel_rfl
theorem z73 : zT Try.prog 73 = some (.agg [.str [], .str []]) := by kernel_rfl
theorem g74 : Try.prog.eqGuardType Try.prog.depth 74 = false := by kernel_rfl
theorem g75 : Try.prog.eqGuardType Try.prog.depth 75 = false := by kernel_rfl
theorem g76 : Try.prog.eqGuardType Try.prog.depth 76 = false := by kernel_rfl
theorem g77 : Try.prog.eqGuardType Try.prog.depth 77 = false := by kernel_rfl
theorem s78 : szT Try.prog 78 = some 5 := by kernel_rfl
theorem b78 : byT Try.prog 78 = some 40 := by kernel_rfl
theorem a78 : aggT Try.prog 78 = some true := by kernel_rfl
theorem g78 : Try.prog.eqGuardType Try.prog.depth 78 = false := by kernel_rfl
theorem h78 : Try.prog.stoodInHeld 78 = false := by kernel_rfl
theorem z78 : zT Try.prog 78 = some (.agg [.int .i64 0, .int .i64 0, .int .i64 0, .int .i64 0, .int .i64 0]) := by kernel_rfl
theorem s79 : szT Try.prog 79 = some 5 := by kernel_rfl
theorem b79 : byT Try.prog 79 = some 40 := by kernel_rfl
theorem a79 : aggT Try.prog 79 = some true := by kernel_rfl
theorem g79 : Try.prog.eqGuardType Try.prog.depth 79 = false := by kernel_rfl
theorem h79 : Try.prog.stoodInHeld 79 = false := by kernel_rfl
theorem z79 : zT Try.prog 79 = some (.agg [.int .i64 0, .int .i64 0, .int .i64 0, .int .i64 0, .int .i64 0]) := by kernel_rfl
theorem s80 : szT Try.prog 80 = some 18 := by kernel_rfl
theorem b80 : byT Try.prog 80 = some 160 := by kernel_rfl
theorem a80 : aggT Try.prog 80 = some true := by kernel_rfl
theorem g80 : Try.prog.eqGuardType Try.prog.depth 80 = false := by kernel_rfl
theorem h80 : Try.prog.stoodInHeld 80 = false := by kernel_rfl
theorem z80 : zT Try.prog 80 = some (.agg [.str [], .str [], .int .i64 0, .int .i64 0, .int .i64 0, .int .i64 0, .int .i64 0, .int .i64 0, .int .i64 0, .int .i64 0, .int .i64 0, .int .i64 0, .int .i64 0, .int .i64 0, .int .i64 0, .int .i64 0, .int .i64 0, .int .i64 0]) := by kernel_rfl
theorem s81 : szT Try.prog 81 = some 18 := by kernel_rfl
theorem b81 : byT Try.prog 81 = some 160 := by kernel_rfl
theorem a81 : aggT Try.prog 81 = some true := by kernel_rfl
theorem g81 : Try.prog.eqGuardType Try.prog.depth 81 = false := by kernel_rfl
theorem h81 : Try.prog.stoodInHeld 81 = false := by kernel_rfl
theorem z81 : zT Try.prog 81 = some (.agg [.str [], .str [], .int .i64 0, .int .i64 0, .int .i64 0, .int .i64 0, .int .i64 0, .int .i64 0, .int .i64 0, .int .i64 0, .int .i64 0, .int .i64 0, .int .i64 0, .int .i64 0, .int .i64 0, .int .i64 0, .int .i64 0, .int .i64 0]) := by kernel_rfl
theorem g82 : Try.prog.eqGuardType Try.prog.depth 82 = false := by kernel_rfl
theorem g83 : Try.prog.eqGuardType Try.prog.depth 83 = false := by kernel_rfl
theorem g84 : Try.prog.eqGuardType Try.prog.depth 84 = false := by kernel_rfl
theorem g86 : Try.prog.eqGuardType Try.prog.depth 86 = false := by kernel_rfl
theorem g88 : Try.prog.eqGuardType Try.prog.depth 88 = false := by kernel_rfl
theorem s89 : szT Try.prog 89 = some 3 := by kernel_rfl
theorem b89 : byT Try.prog 89 = some 40 := by kernel_rfl
theorem a89 : aggT Try.prog 89 = some true := by kernel_rfl
theorem g89 : Try.prog.eqGuardType Try.prog.depth 89 = false := by kernel_rfl
theorem h89 : Try.prog.stoodInHeld 89 = false := by kernel_rfl
theorem z89 : zT Try.prog 89 = some (.agg [.str [], .str [], .bool false]) := by kernel_rfl
theorem s90 : szT Try.prog 90 = some 3 := by kernel_rfl
theorem b90 : byT Try.prog 90 = some 40 := by kernel_rfl
theorem a90 : aggT Try.prog 90 = some true := by kernel_rfl
theorem g90 : Try.prog.eqGuardType Try.prog.depth 90 = false := by kernel_rfl
theorem h90 : Try.prog.stoodInHeld 90 = false := by kernel_rfl
theorem z90 : zT Try.prog 90 = some (.agg [.str [], .str [], .bool false]) := by kernel_rfl
theorem g92 : Try.prog.eqGuardType Try.prog.depth 92 = false := by kernel_rfl
theorem g93 : Try.prog.eqGuardType Try.prog.depth 93 = false := by kernel_rfl
theorem g94 : Try.prog.eqGuardType Try.prog.depth 94 = false := by kernel_rfl
theorem s94 : szT Try.prog 94 = some 1 := by kernel_rfl
theorem b94 : byT Try.prog 94 = some 24 := by kernel_rfl
theorem a94 : aggT Try.prog 94 = some false := by kernel_rfl
theorem z94 : zT Try.prog 94 = some (.nils) := by kernel_rfl
theorem g95 : Try.prog.eqGuardType Try.prog.depth 95 = false := by kernel_rfl
theorem g96 : Try.prog.eqGuardType Try.prog.depth 96 = false := by kernel_rfl
theorem s97 : szT Try.prog 97 = some 6 := by kernel_rfl
theorem b97 : byT Try.prog 97 = some 88 := by kernel_rfl
theorem a97 : aggT Try.prog 97 = some true := by kernel_rfl
theorem z97 : zT Try.prog 97 = some (.agg [.str [], .str [], .int .i64 0, .int .i64 0, .str [], .nils]) := by kernel_rfl
theorem s98 : szT Try.prog 98 = some 6 := by kernel_rfl
theorem b98 : byT Try.prog 98 = some 88 := by kernel_rfl
theorem a98 : aggT Try.prog 98 = some true := by kernel_rfl
theorem z98 : zT Try.prog 98 = some (.agg [.str [], .str [], .int .i64 0, .int .i64 0, .str [], .nils]) := by kernel_rfl
theorem g99 : Try.prog.eqGuardType Try.prog.depth 99 = false := by kernel_rfl
theorem g100 : Try.prog.eqGuardType Try.prog.depth 100 = false := by kernel_rfl
theorem g101 : Try.prog.eqGuardType Try.prog.depth 101 = false := by kernel_rfl
theorem g103 : Try.prog.eqGuardType Try.prog.depth 103 = false := by kernel_rfl
theorem g104 : Try.prog.eqGuardType Try.prog.depth 104 = false := by kernel_rfl
theorem g105 : Try.prog.eqGuardType Try.prog.depth 105 = false := by kernel_rfl
theorem g106 : Try.prog.eqGuardType Try.prog.depth 106 = false := by kernel_rfl
theorem g108 : Try.prog.eqGuardType Try.prog.depth 108 = false := by kernel_rfl
theorem g109 : Try.prog.eqGuardType Try.prog.depth 109 = false := by kernel_rfl
theorem s110 : szT Try.prog 110 = some 6 := by kernel_rfl
theorem b110 : byT Try.prog 110 = some 48 := by kernel_rfl
theorem a110 : aggT Try.prog 110 = some true := by kernel_rfl
theorem g110 : Try.prog.eqGuardType Try.prog.depth 110 = false := by kernel_rfl
theorem h110 : Try.prog.stoodInHeld 110 = false := by kernel_rfl
theorem z110 : zT Try.prog 110 = some (.agg [.int .i64 0, .int .i64 0, .int .i64 0, .int .i64 0, .int .i64 0, .int .i64 0]) := by kernel_rfl
theorem s111 : szT Try.prog 111 = some 6 := by kernel_rfl
theorem b111 : byT Try.prog 111 = some 48 := by kernel_rfl
theorem a111 : aggT Try.prog 111 = some true := by kernel_rfl
theorem g111 : Try.prog.eqGuardType Try.prog.depth 111 = false := by kernel_rfl
theorem h111 : Try.prog.stoodInHeld 111 = false := by kernel_rfl
theorem z111 : zT Try.prog 111 = some (.agg [.int .i64 0, .int .i64 0, .int .i64 0, .int .i64 0, .int .i64 0, .int .i64 0]) := by kernel_rfl
theorem g113 : Try.prog.eqGuardType Try.prog.depth 113 = false := by kernel_rfl
theorem g114 : Try.prog.eqGuardType Try.prog.depth 114 = false := by kernel_rfl
theorem g116 : Try.prog.eqGuardType Try.prog.depth 116 = false := by kernel_rfl
theorem g117 : Try.prog.eqGuardType Try.prog.depth 117 = false := by kernel_rfl
theorem g118 : Try.prog.eqGuardType Try.prog.depth 118 = false := by kernel_rfl
theorem s119 : szT Try.prog 119 = some 2 := by kernel_rfl
theorem b119 : byT Try.prog 119 = some 16 := by kernel_rfl
theorem a119 : aggT Try.prog 119 = some true := by kernel_rfl
theorem g119 : Try.prog.eqGuardType Try.prog.depth 119 = false := by kernel_rfl
theorem h119 : Try.prog.stoodInHeld 119 = false := by kernel_rfl
theorem z119 : zT Try.prog 119 = some (.agg [.int .i64 0, .int .i64 0]) := by kernel_rfl
theorem s120 : szT Try.prog 120 = some 2 := by kernel_rfl
theorem b120 : byT Try.prog 120 = some 16 := by kernel_rfl
theorem a120 : aggT Try.prog 120 = some true := by kernel_rfl
theorem g120 : Try.prog.eqGuardType Try.prog.depth 120 = false := by kernel_rfl
theorem h120 : Try.prog.stoodInHeld 120 = false := by kernel_rfl
theorem z120 : zT Try.prog 120 = some (.agg [.int .i64 0, .int .i64 0]) := by kernel_rfl
theorem g122 : Try.prog.eqGuardType Try.prog.depth 122 = false := by kernel_rfl
theorem g123 : Try.prog.eqGuardType Try.prog.depth 123 = false := by kernel_rfl
theorem g124 : Try.prog.eqGuardType Try.prog.depth 124 = false := by kernel_rfl
theorem g125 : Try.prog.eqGuardType Try.prog.depth 125 = false := by kernel_rfl
theorem g126 : Try.prog.eqGuardType Try.prog.depth 126 = false := by kernel_rfl
theorem g127 : Try.prog.eqGuardType Try.prog.depth 127 = false := by kernel_rfl
theorem g128 : Try.prog.eqGuardType Try.prog.depth 128 = false := by kernel_rfl
theorem g129 : Try.prog.eqGuardType Try.prog.depth 129 = false := by kernel_rfl
theorem g130 : Try.prog.eqGuardType Try.prog.depth 130 = false := by kernel_rfl
theorem g131 : Try.prog.eqGuardType Try.prog.depth 131 = false := by kernel_rfl
theorem g132 : Try.prog.eqGuardType Try.prog.depth 132 = false := by kernel_rfl
theorem g134 : Try.prog.eqGuardType Try.prog.depth 134 = false := by kernel_rfl
theorem g135 : Try.prog.eqGuardType Try.prog.depth 135 = false := by kernel_rfl
theorem g136 : Try.prog.eqGuardType Try.prog.depth 136 = false := by kernel_rfl
theorem s136 : szT Try.prog 136 = some 1 := by kernel_rfl
theorem b136 : byT Try.prog 136 = some 24 := by kernel_rfl
theorem a136 : aggT Try.prog 136 = some false := by kernel_rfl
theorem z136 : zT Try.prog 136 = some (.nils) := by kernel_rfl
theorem g137 : Try.prog.eqGuardType Try.prog.depth 137 = false := by kernel_rfl
theorem s137 : szT Try.prog 137 = some 1 := by kernel_rfl
theorem b137 : byT Try.prog 137 = some 8 := by kernel_rfl
theorem a137 : aggT Try.prog 137 = some false := by kernel_rfl
theorem z137 : zT Try.prog 137 = some (.nilp) := by kernel_rfl
theorem g138 : Try.prog.eqGuardType Try.prog.depth 138 = false := by kernel_rfl
theorem g139 : Try.prog.eqGuardType Try.prog.depth 139 = false := by kernel_rfl
theorem g140 : Try.prog.eqGuardType Try.prog.depth 140 = false := by kernel_rfl
theorem g141 : Try.prog.eqGuardType Try.prog.depth 141 = false := by kernel_rfl
theorem g142 : Try.prog.eqGuardType Try.prog.depth 142 = false := by kernel_rfl
theorem g144 : Try.prog.eqGuardType Try.prog.depth 144 = false := by kernel_rfl
theorem g145 : Try.prog.eqGuardType Try.prog.depth 145 = false := by kernel_rfl
theorem s146 : szT Try.prog 146 = some 1 := by kernel_rfl
theorem b146 : byT Try.prog 146 = some 8 := by kernel_rfl
theorem a146 : aggT Try.prog 146 = some false := by kernel_rfl
theorem z146 : zT Try.prog 146 = some (.int .u64 0) := by kernel_rfl
theorem g147 : Try.prog.eqGuardType Try.prog.depth 147 = false := by kernel_rfl
theorem g149 : Try.prog.eqGuardType Try.prog.depth 149 = false := by kernel_rfl
theorem g150 : Try.prog.eqGuardType Try.prog.depth 150 = false := by kernel_rfl
theorem s151 : szT Try.prog 151 = some 3 := by kernel_rfl
theorem b151 : byT Try.prog 151 = some 48 := by kernel_rfl
theorem a151 : aggT Try.prog 151 = some true := by kernel_rfl
theorem g151 : Try.prog.eqGuardType Try.prog.depth 151 = false := by kernel_rfl
theorem h151 : Try.prog.stoodInHeld 151 = false := by kernel_rfl
theorem z151 : zT Try.prog 151 = some (.agg [.str [], .str [], .str []]) := by kernel_rfl
theorem g152 : Try.prog.eqGuardType Try.prog.depth 152 = false := by kernel_rfl
theorem s153 : szT Try.prog 153 = some 7 := by kernel_rfl
theorem b153 : byT Try.prog 153 = some 112 := by kernel_rfl
theorem a153 : aggT Try.prog 153 = some true := by kernel_rfl
theorem g153 : Try.prog.eqGuardType Try.prog.depth 153 = false := by kernel_rfl
theorem h153 : Try.prog.stoodInHeld 153 = false := by kernel_rfl
theorem z153 : zT Try.prog 153 = some (.agg [.str [], .str [], .str [], .str [], .str [], .str [], .str []]) := by kernel_rfl
theorem g154 : Try.prog.eqGuardType Try.prog.depth 154 = false := by kernel_rfl
theorem g155 : Try.prog.eqGuardType Try.prog.depth 155 = false := by kernel_rfl
theorem g156 : Try.prog.eqGuardType Try.prog.depth 156 = false := by kernel_rfl
theorem g157 : Try.prog.eqGuardType Try.prog.depth 157 = false := by kernel_rfl
theorem g158 : Try.prog.eqGuardType Try.prog.depth 158 = false := by kernel_rfl
theorem g159 : Try.prog.eqGuardType Try.prog.depth 159 = false := by kernel_rfl
theorem g160 : Try.prog.eqGuardType Try.prog.depth 160 = false := by kernel_rfl
theorem g161 : Try.prog.eqGuardType Try.prog.depth 161 = false := by kernel_rfl
theorem g162 : Try.prog.eqGuardType Try.prog.depth 162 = false := by kernel_rfl
theorem g163 : Try.prog.eqGuardType Try.prog.depth 163 = false := by kernel_rfl
theorem g164 : Try.prog.eqGuardType Try.prog.depth 164 = false := by kernel_rfl
theorem g165 : Try.prog.eqGuardType Try.prog.depth 165 = false := by kernel_rfl
theorem s165 : szT Try.prog 165 = some 1 := by kernel_rfl
theorem b165 : byT Try.prog 165 = some 8 := by kernel_rfl
theorem a165 : aggT Try.prog 165 = some false := by kernel_rfl
theorem z165 : zT Try.prog 165 = some (.nilp) := by kernel_rfl
theorem s166 : szT Try.prog 166 = some 3 := by kernel_rfl
theorem b166 : byT Try.prog 166 = some 24 := by kernel_rfl
theorem a166 : aggT Try.prog 166 = some true := by kernel_rfl
theorem z166 : zT Try.prog 166 = some (.agg [.nilp, .int .i64 0, .int .i64 0]) := by kernel_rfl
theorem s167 : szT Try.prog 167 = some 3 := by kernel_rfl
theorem b167 : byT Try.prog 167 = some 24 := by kernel_rfl
theorem a167 : aggT Try.prog 167 = some true := by kernel_rfl
theorem z167 : zT Try.prog 167 = some (.agg [.nilp, .int .i64 0, .int .i64 0]) := by kernel_rfl
theorem s168 : szT Try.prog 168 = some 48 := by kernel_rfl
theorem b168 : byT Try.prog 168 = some 384 := by kernel_rfl
theorem a168 : aggT Try.prog 168 = some true := by kernel_rfl
theorem z168 : zT Try.prog 168 = some (.agg [.nilp, .int .i64 0, .int .i64 0, .nilp, .int .i64 0, .int .i64 0, .nilp, .int .i64 0, .int .i64 0, .nilp, .int .i64 0, .int .i64 0, .nilp, .int .i64 0, .int .i64 0, .nilp, .int .i64 0, .int .i64 0, .nilp, .int .i64 0, .int .i64 0, .nilp, .int .i64 0, .int .i64 0, .nilp, .int .i64 0, .int .i64 0, .nilp, .int .i64 0, .int .i64 0, .nilp, .int .i64 0, .int .i64 0, .nilp, .int .i64 0, .int .i64 0, .nilp, .int .i64 0, .int .i64 0, .nilp, .int .i64 0, .int .i64 0, .nilp, .int .i64 0, .int .i64 0, .nilp, .int .i64 0, .int .i64 0]) := by kernel_rfl
theorem g169 : Try.prog.eqGuardType Try.prog.depth 169 = false := by kernel_rfl
theorem g170 : Try.prog.eqGuardType Try.prog.depth 170 = false := by kernel_rfl
theorem s170 : szT Try.prog 170 = some 1 := by kernel_rfl
theorem b170 : byT Try.prog 170 = some 8 := by kernel_rfl
theorem a170 : aggT Try.prog 170 = some false := by kernel_rfl
theorem z170 : zT Try.prog 170 = some (.nilp) := by kernel_rfl
theorem g171 : Try.prog.eqGuardType Try.prog.depth 171 = false := by kernel_rfl
theorem g172 : Try.prog.eqGuardType Try.prog.depth 172 = false := by kernel_rfl
theorem g174 : Try.prog.eqGuardType Try.prog.depth 174 = false := by kernel_rfl
theorem g175 : Try.prog.eqGuardType Try.prog.depth 175 = false := by kernel_rfl
theorem g176 : Try.prog.eqGuardType Try.prog.depth 176 = false := by kernel_rfl
theorem s176 : szT Try.prog 176 = some 1 := by kernel_rfl
theorem b176 : byT Try.prog 176 = some 24 := by kernel_rfl
theorem a176 : aggT Try.prog 176 = some false := by kernel_rfl
theorem z176 : zT Try.prog 176 = some (.nils) := by kernel_rfl
theorem g177 : Try.prog.eqGuardType Try.prog.depth 177 = false := by kernel_rfl
theorem g178 : Try.prog.eqGuardType Try.prog.depth 178 = false := by kernel_rfl
theorem s179 : szT Try.prog 179 = some 2 := by kernel_rfl
theorem b179 : byT Try.prog 179 = some 24 := by kernel_rfl
theorem a179 : aggT Try.prog 179 = some true := by kernel_rfl
theorem g179 : Try.prog.eqGuardType Try.prog.depth 179 = false := by kernel_rfl
theorem h179 : Try.prog.stoodInHeld 179 = false := by kernel_rfl
theorem z179 : zT Try.prog 179 = some (.agg [.int .i64 0, .str []]) := by kernel_rfl
theorem s180 : szT Try.prog 180 = some 2 := by kernel_rfl
theorem b180 : byT Try.prog 180 = some 24 := by kernel_rfl
theorem a180 : aggT Try.prog 180 = some true := by kernel_rfl
theorem g180 : Try.prog.eqGuardType Try.prog.depth 180 = false := by kernel_rfl
theorem h180 : Try.prog.stoodInHeld 180 = false := by kernel_rfl
theorem z180 : zT Try.prog 180 = some (.agg [.int .i64 0, .str []]) := by kernel_rfl
theorem g181 : Try.prog.eqGuardType Try.prog.depth 181 = false := by kernel_rfl
theorem s181 : szT Try.prog 181 = some 1 := by kernel_rfl
theorem b181 : byT Try.prog 181 = some 24 := by kernel_rfl
theorem a181 : aggT Try.prog 181 = some false := by kernel_rfl
theorem z181 : zT Try.prog 181 = some (.nils) := by kernel_rfl
theorem g182 : Try.prog.eqGuardType Try.prog.depth 182 = false := by kernel_rfl
theorem s183 : szT Try.prog 183 = some 2 := by kernel_rfl
theorem b183 : byT Try.prog 183 = some 24 := by kernel_rfl
theorem a183 : aggT Try.prog 183 = some true := by kernel_rfl
theorem g183 : Try.prog.eqGuardType Try.prog.depth 183 = false := by kernel_rfl
theorem h183 : Try.prog.stoodInHeld 183 = false := by kernel_rfl
theorem z183 : zT Try.prog 183 = some (.agg [.int .i64 0, .str []]) := by kernel_rfl
theorem g184 : Try.prog.eqGuardType Try.prog.depth 184 = false := by kernel_rfl
theorem g185 : Try.prog.eqGuardType Try.prog.depth 185 = false := by kernel_rfl
theorem g186 : Try.prog.eqGuardType Try.prog.depth 186 = false := by kernel_rfl
theorem s186 : szT Try.prog 186 = some 1 := by kernel_rfl
theorem b186 : byT Try.prog 186 = some 8 := by kernel_rfl
theorem a186 : aggT Try.prog 186 = some false := by kernel_rfl
theorem z186 : zT Try.prog 186 = some (.nilp) := by kernel_rfl
theorem g187 : Try.prog.eqGuardType Try.prog.depth 187 = false := by kernel_rfl
theorem s188 : szT Try.prog 188 = some 10 := by kernel_rfl
theorem b188 : byT Try.prog 188 = some 80 := by kernel_rfl
theorem a188 : aggT Try.prog 188 = some true := by kernel_rfl
theorem g188 : Try.prog.eqGuardType Try.prog.depth 188 = false := by kernel_rfl
theorem h188 : Try.prog.stoodInHeld 188 = false := by kernel_rfl
theorem z188 : zT Try.prog 188 = some (.agg [.str [], .int .i64 0, .int .i64 0, .int .i64 0, .int .i64 0, .int .i64 0, .int .i64 0, .int .i64 0, .bool false, .bool false]) := by kernel_rfl
theorem s189 : szT Try.prog 189 = some 10 := by kernel_rfl
theorem b189 : byT Try.prog 189 = some 80 := by kernel_rfl
theorem a189 : aggT Try.prog 189 = some true := by kernel_rfl
theorem g189 : Try.prog.eqGuardType Try.prog.depth 189 = false := by kernel_rfl
theorem h189 : Try.prog.stoodInHeld 189 = false := by kernel_rfl
theorem z189 : zT Try.prog 189 = some (.agg [.str [], .int .i64 0, .int .i64 0, .int .i64 0, .int .i64 0, .int .i64 0, .int .i64 0, .int .i64 0, .bool false, .bool false]) := by kernel_rfl
theorem g190 : Try.prog.eqGuardType Try.prog.depth 190 = false := by kernel_rfl
theorem g191 : Try.prog.eqGuardType Try.prog.depth 191 = false := by kernel_rfl
theorem g192 : Try.prog.eqGuardType Try.prog.depth 192 = false := by kernel_rfl
theorem g193 : Try.prog.eqGuardType Try.prog.depth 193 = false := by kernel_rfl
theorem g195 : Try.prog.eqGuardType Try.prog.depth 195 = false := by kernel_rfl
theorem g196 : Try.prog.eqGuardType Try.prog.depth 196 = false := by kernel_rfl
theorem s197 : szT Try.prog 197 = some 12 := by kernel_rfl
theorem b197 : byT Try.prog 197 = some 192 := by kernel_rfl
theorem a197 : aggT Try.prog 197 = some true := by kernel_rfl
theorem g197 : Try.prog.eqGuardType Try.prog.depth 197 = false := by kernel_rfl
theorem h197 : Try.prog.stoodInHeld 197 = false := by kernel_rfl
theorem z197 : zT Try.prog 197 = some (.agg [.str [], .str [], .str [], .str [], .str [], .str [], .str [], .str [], .str [], .str [], .str [], .str []]) := by kernel_rfl
theorem g198 : Try.prog.eqGuardType Try.prog.depth 198 = false := by kernel_rfl
theorem g199 : Try.prog.eqGuardType Try.prog.depth 199 = false := by kernel_rfl
theorem g200 : Try.prog.eqGuardType Try.prog.depth 200 = false := by kernel_rfl
theorem g201 : Try.prog.eqGuardType Try.prog.depth 201 = false := by kernel_rfl
theorem g202 : Try.prog.eqGuardType Try.prog.depth 202 = false := by kernel_rfl
theorem s203 : szT Try.prog 203 = some 5 := by kernel_rfl
theorem b203 : byT Try.prog 203 = some 80 := by kernel_rfl
theorem a203 : aggT Try.prog 203 = some true := by kernel_rfl
theorem g203 : Try.prog.eqGuardType Try.prog.depth 203 = false := by kernel_rfl
theorem h203 : Try.prog.stoodInHeld 203 = false := by kernel_rfl
theorem z203 : zT Try.prog 203 = some (.agg [.str [], .str [], .str [], .str [], .str []]) := by kernel_rfl
theorem g204 : Try.prog.eqGuardType Try.prog.depth 204 = false := by kernel_rfl
theorem s205 : szT Try.prog 205 = some 3 := by kernel_rfl
theorem b205 : byT Try.prog 205 = some 16 := by kernel_rfl
theorem a205 : aggT Try.prog 205 = some true := by kernel_rfl
theorem g205 : Try.prog.eqGuardType Try.prog.depth 205 = false := by kernel_rfl
theorem h205 : Try.prog.stoodInHeld 205 = false := by kernel_rfl
theorem z205 : zT Try.prog 205 = some (.agg [.bool false, .bool false, .int .i64 0]) := by kernel_rfl
theorem s206 : szT Try.prog 206 = some 3 := by kernel_rfl
theorem b206 : byT Try.prog 206 = some 16 := by kernel_rfl
theorem a206 : aggT Try.prog 206 = some true := by kernel_rfl
theorem g206 : Try.prog.eqGuardType Try.prog.depth 206 = false := by kernel_rfl
theorem h206 : Try.prog.stoodInHeld 206 = false := by kernel_rfl
theorem z206 : zT Try.prog 206 = some (.agg [.bool false, .bool false, .int .i64 0]) := by kernel_rfl
theorem g207 : Try.prog.eqGuardType Try.prog.depth 207 = false := by kernel_rfl
theorem g208 : Try.prog.eqGuardType Try.prog.depth 208 = false := by kernel_rfl
theorem g209 : Try.prog.eqGuardType Try.prog.depth 209 = false := by kernel_rfl
theorem s209 : szT Try.prog 209 = some 1 := by kernel_rfl
theorem b209 : byT Try.prog 209 = some 8 := by kernel_rfl
theorem a209 : aggT Try.prog 209 = some false := by kernel_rfl
theorem z209 : zT Try.prog 209 = some (.nilp) := by kernel_rfl
theorem s210 : szT Try.prog 210 = some 2 := by kernel_rfl
theorem b210 : byT Try.prog 210 = some 32 := by kernel_rfl
theorem a210 : aggT Try.prog 210 = some true := by kernel_rfl
theorem z210 : zT Try.prog 210 = some (.agg [.nilp, .nils]) := by kernel_rfl
theorem s211 : szT Try.prog 211 = some 2 := by kernel_rfl
theorem b211 : byT Try.prog 211 = some 32 := by kernel_rfl
theorem a211 : aggT Try.prog 211 = some true := by kernel_rfl
theorem z211 : zT Try.prog 211 = some (.agg [.nilp, .nils]) := by kernel_rfl
theorem s212 : szT Try.prog 212 = some 1 := by kernel_rfl
theorem b212 : byT Try.prog 212 = some 16 := by kernel_rfl
theorem a212 : aggT Try.prog 212 = some false := by kernel_rfl
theorem z212 : zT Try.prog 212 = some (.nili) := by kernel_rfl
theorem s213 : szT Try.prog 213 = some 1 := by kernel_rfl
theorem b213 : byT Try.prog 213 = some 16 := by kernel_rfl
theorem a213 : aggT Try.prog 213 = some false := by kernel_rfl
theorem z213 : zT Try.prog 213 = some (.nili) := by kernel_rfl
theorem g215 : Try.prog.eqGuardType Try.prog.depth 215 = false := by kernel_rfl
theorem g216 : Try.prog.eqGuardType Try.prog.depth 216 = false := by kernel_rfl
theorem g217 : Try.prog.eqGuardType Try.prog.depth 217 = false := by kernel_rfl
theorem g218 : Try.prog.eqGuardType Try.prog.depth 218 = false := by kernel_rfl
theorem g219 : Try.prog.eqGuardType Try.prog.depth 219 = false := by kernel_rfl
theorem s220 : szT Try.prog 220 = some 2 := by kernel_rfl
theorem b220 : byT Try.prog 220 = some 24 := by kernel_rfl
theorem a220 : aggT Try.prog 220 = some true := by kernel_rfl
theorem g220 : Try.prog.eqGuardType Try.prog.depth 220 = false := by kernel_rfl
theorem h220 : Try.prog.stoodInHeld 220 = false := by kernel_rfl
theorem z220 : zT Try.prog 220 = some (.agg [.str [], .int .i64 0]) := by kernel_rfl
theorem s221 : szT Try.prog 221 = some 2 := by kernel_rfl
theorem b221 : byT Try.prog 221 = some 24 := by kernel_rfl
theorem a221 : aggT Try.prog 221 = some true := by kernel_rfl
theorem g221 : Try.prog.eqGuardType Try.prog.depth 221 = false := by kernel_rfl
theorem h221 : Try.prog.stoodInHeld 221 = false := by kernel_rfl
theorem z221 : zT Try.prog 221 = some (.agg [.str [], .int .i64 0]) := by kernel_rfl
theorem g222 : Try.prog.eqGuardType Try.prog.depth 222 = false := by kernel_rfl
theorem g223 : Try.prog.eqGuardType Try.prog.depth 223 = false := by kernel_rfl
theorem g225 : Try.prog.eqGuardType Try.prog.depth 225 = false := by kernel_rfl
theorem g226 : Try.prog.eqGuardType Try.prog.depth 226 = false := by kernel_rfl
theorem g227 : Try.prog.eqGuardType Try.prog.depth 227 = false := by kernel_rfl
theorem g228 : Try.prog.eqGuardType Try.prog.depth 228 = false := by kernel_rfl
theorem g229 : Try.prog.eqGuardType Try.prog.depth 229 = false := by kernel_rfl
theorem s229 : szT Try.prog 229 = some 1 := by kernel_rfl
theorem b229 : byT Try.prog 229 = some 8 := by kernel_rfl
theorem a229 : aggT Try.prog 229 = some false := by kernel_rfl
theorem z229 : zT Try.prog 229 = some (.nilp) := by kernel_rfl
theorem g230 : Try.prog.eqGuardType Try.prog.depth 230 = false := by kernel_rfl
theorem g231 : Try.prog.eqGuardType Try.prog.depth 231 = false := by kernel_rfl
theorem g232 : Try.prog.eqGuardType Try.prog.depth 232 = false := by kernel_rfl
theorem s232 : szT Try.prog 232 = some 1 := by kernel_rfl
theorem b232 : byT Try.prog 232 = some 24 := by kernel_rfl
theorem a232 : aggT Try.prog 232 = some false := by kernel_rfl
theorem z232 : zT Try.prog 232 = some (.nils) := by kernel_rfl
theorem g233 : Try.prog.eqGuardType Try.prog.depth 233 = false := by kernel_rfl
theorem g234 : Try.prog.eqGuardType Try.prog.depth 234 = false := by kernel_rfl
theorem g235 : Try.prog.eqGuardType Try.prog.depth 235 = false := by kernel_rfl
theorem g236 : Try.prog.eqGuardType Try.prog.depth 236 = false := by kernel_rfl
theorem g237 : Try.prog.eqGuardType Try.prog.depth 237 = false := by kernel_rfl
theorem g239 : Try.prog.eqGuardType Try.prog.depth 239 = false := by kernel_rfl
theorem g240 : Try.prog.eqGuardType Try.prog.depth 240 = false := by kernel_rfl
theorem g241 : Try.prog.eqGuardType Try.prog.depth 241 = false := by kernel_rfl
theorem g242 : Try.prog.eqGuardType Try.prog.depth 242 = false := by kernel_rfl
theorem g243 : Try.prog.eqGuardType Try.prog.depth 243 = false := by kernel_rfl
theorem s243 : szT Try.prog 243 = some 1 := by kernel_rfl
theorem b243 : byT Try.prog 243 = some 8 := by kernel_rfl
theorem a243 : aggT Try.prog 243 = some false := by kernel_rfl
theorem z243 : zT Try.prog 243 = some (.nilp) := by kernel_rfl
theorem g244 : Try.prog.eqGuardType Try.prog.depth 244 = false := by kernel_rfl
theorem s244 : szT Try.prog 244 = some 1 := by kernel_rfl
theorem b244 : byT Try.prog 244 = some 8 := by kernel_rfl
theorem a244 : aggT Try.prog 244 = some false := by kernel_rfl
theorem z244 : zT Try.prog 244 = some (.nilp) := by kernel_rfl
theorem s245 : szT Try.prog 245 = some 64 := by kernel_rfl
theorem b245 : byT Try.prog 245 = some 64 := by kernel_rfl
theorem a245 : aggT Try.prog 245 = some true := by kernel_rfl
theorem g245 : Try.prog.eqGuardType Try.prog.depth 245 = false := by kernel_rfl
theorem h245 : Try.prog.stoodInHeld 245 = false := by kernel_rfl
theorem z245 : zT Try.prog 245 = some (.agg [.int .u8 0, .int .u8 0, .int .u8 0, .int .u8 0, .int .u8 0, .int .u8 0, .int .u8 0, .int .u8 0, .int .u8 0, .int .u8 0, .int .u8 0, .int .u8 0, .int .u8 0, .int .u8 0, .int .u8 0, .int .u8 0, .int .u8 0, .int .u8 0, .int .u8 0, .int .u8 0, .int .u8 0, .int .u8 0, .int .u8 0, .int .u8 0, .int .u8 0, .int .u8 0, .int .u8 0, .int .u8 0, .int .u8 0, .int .u8 0, .int .u8 0, .int .u8 0, .int .u8 0, .int .u8 0, .int .u8 0, .int .u8 0, .int .u8 0, .int .u8 0, .int .u8 0, .int .u8 0, .int .u8 0, .int .u8 0, .int .u8 0, .int .u8 0, .int .u8 0, .int .u8 0, .int .u8 0, .int .u8 0, .int .u8 0, .int .u8 0, .int .u8 0, .int .u8 0, .int .u8 0, .int .u8 0, .int .u8 0, .int .u8 0, .int .u8 0, .int .u8 0, .int .u8 0, .int .u8 0, .int .u8 0, .int .u8 0, .int .u8 0, .int .u8 0]) := by kernel_rfl
theorem s246 : szT Try.prog 246 = some 1 := by kernel_rfl
theorem b246 : byT Try.prog 246 = some 8 := by kernel_rfl
theorem a246 : aggT Try.prog 246 = some false := by kernel_rfl
theorem z246 : zT Try.prog 246 = some (.int .u64 0) := by kernel_rfl
theorem g248 : Try.prog.eqGuardType Try.prog.depth 248 = false := by kernel_rfl
theorem g249 : Try.prog.eqGuardType Try.prog.depth 249 = false := by kernel_rfl
theorem s249 : szT Try.prog 249 = some 1 := by kernel_rfl
theorem b249 : byT Try.prog 249 = some 8 := by kernel_rfl
theorem a249 : aggT Try.prog 249 = some false := by kernel_rfl
theorem g250 : Try.prog.eqGuardType Try.prog.depth 250 = false := by kernel_rfl
theorem g251 : Try.prog.eqGuardType Try.prog.depth 251 = false := by kernel_rfl
theorem g252 : Try.prog.eqGuardType Try.prog.depth 252 = false := by kernel_rfl
theorem g254 : Try.prog.eqGuardType Try.prog.depth 254 = false := by kernel_rfl
theorem g255 : Try.prog.eqGuardType Try.prog.depth 255 = false := by kernel_rfl
theorem s256 : szT Try.prog 256 = some 1 := by kernel_rfl
theorem b256 : byT Try.prog 256 = some 4 := by kernel_rfl
theorem a256 : aggT Try.prog 256 = some false := by kernel_rfl
theorem z256 : zT Try.prog 256 = some (.int .u32 0) := by kernel_rfl
theorem g258 : Try.prog.eqGuardType Try.prog.depth 258 = false := by kernel_rfl
theorem g260 : Try.prog.eqGuardType Try.prog.depth 260 = false := by kernel_rfl
theorem s261 : szT Try.prog 261 = some 4 := by kernel_rfl
theorem b261 : byT Try.prog 261 = some 64 := by kernel_rfl
theorem a261 : aggT Try.prog 261 = some true := by kernel_rfl
theorem g261 : Try.prog.eqGuardType Try.prog.depth 261 = false := by kernel_rfl
theorem h261 : Try.prog.stoodInHeld 261 = false := by kernel_rfl
theorem z261 : zT Try.prog 261 = some (.agg [.str [], .str [], .str [], .str []]) := by kernel_rfl
theorem g262 : Try.prog.eqGuardType Try.prog.depth 262 = false := by kernel_rfl
theorem g263 : Try.prog.eqGuardType Try.prog.depth 263 = false := by kernel_rfl
theorem s264 : szT Try.prog 264 = some 12 := by kernel_rfl
theorem b264 : byT Try.prog 264 = some 96 := by kernel_rfl
theorem a264 : aggT Try.prog 264 = some true := by kernel_rfl
theorem g264 : Try.prog.eqGuardType Try.prog.depth 264 = false := by kernel_rfl
theorem h264 : Try.prog.stoodInHeld 264 = false := by kernel_rfl
theorem z264 : zT Try.prog 264 = some (.agg [.int .i64 0, .int .i64 0, .int .i64 0, .int .i64 0, .int .i64 0, .int .i64 0, .int .i64 0, .int .i64 0, .int .i64 0, .int .i64 0, .int .i64 0, .int .i64 0]) := by kernel_rfl
theorem g265 : Try.prog.eqGuardType Try.prog.depth 265 = false := by kernel_rfl
theorem g266 : Try.prog.eqGuardType Try.prog.depth 266 = false := by kernel_rfl
theorem s267 : szT Try.prog 267 = some 4 := by kernel_rfl
theorem b267 : byT Try.prog 267 = some 40 := by kernel_rfl
theorem a267 : aggT Try.prog 267 = some true := by kernel_rfl
theorem z267 : zT Try.prog 267 = some (.agg [.nilp, .nilp, .nilp, .str []]) := by kernel_rfl
theorem s268 : szT Try.prog 268 = some 4 := by kernel_rfl
theorem b268 : byT Try.prog 268 = some 40 := by kernel_rfl
theorem a268 : aggT Try.prog 268 = some true := by kernel_rfl
theorem z268 : zT Try.prog 268 = some (.agg [.nilp, .nilp, .nilp, .str []]) := by kernel_rfl
theorem s269 : szT Try.prog 269 = some 0 := by kernel_rfl
theorem b269 : byT Try.prog 269 = some 0 := by kernel_rfl
theorem a269 : aggT Try.prog 269 = some true := by kernel_rfl
theorem z269 : zT Try.prog 269 = some (.agg []) := by kernel_rfl
theorem s270 : szT Try.prog 270 = some 0 := by kernel_rfl
theorem b270 : byT Try.prog 270 = some 0 := by kernel_rfl
theorem a270 : aggT Try.prog 270 = some true := by kernel_rfl
theorem z270 : zT Try.prog 270 = some (.agg []) := by kernel_rfl
theorem s271 : szT Try.prog 271 = some 0 := by kernel_rfl
theorem b271 : byT Try.prog 271 = some 0 := by kernel_rfl
theorem a271 : aggT Try.prog 271 = some true := by kernel_rfl
theorem z271 : zT Try.prog 271 = some (.agg []) := by kernel_rfl
theorem s272 : szT Try.prog 272 = some 1 := by kernel_rfl
theorem b272 : byT Try.prog 272 = some 1 := by kernel_rfl
theorem a272 : aggT Try.prog 272 = some false := by kernel_rfl
theorem z272 : zT Try.prog 272 = some (.int .u8 0) := by kernel_rfl
theorem s273 : szT Try.prog 273 = some 1 := by kernel_rfl
theorem b273 : byT Try.prog 273 = some 1 := by kernel_rfl
theorem a273 : aggT Try.prog 273 = some false := by kernel_rfl
theorem z273 : zT Try.prog 273 = some (.int .u8 0) := by kernel_rfl
theorem g274 : Try.prog.eqGuardType Try.prog.depth 274 = false := by kernel_rfl
theorem s275 : szT Try.prog 275 = some 1 := by kernel_rfl
theorem b275 : byT Try.prog 275 = some 4 := by kernel_rfl
theorem a275 : aggT Try.prog 275 = some false := by kernel_rfl
theorem z275 : zT Try.prog 275 = some (.int .i32 0) := by kernel_rfl
theorem s276 : szT Try.prog 276 = some 1 := by kernel_rfl
theorem b276 : byT Try.prog 276 = some 4 := by kernel_rfl
theorem a276 : aggT Try.prog 276 = some false := by kernel_rfl
theorem z276 : zT Try.prog 276 = some (.int .i32 0) := by kernel_rfl
theorem s277 : szT Try.prog 277 = some 11 := by kernel_rfl
theorem b277 : byT Try.prog 277 = some 48 := by kernel_rfl
theorem a277 : aggT Try.prog 277 = some true := by kernel_rfl
theorem z277 : zT Try.prog 277 = some (.agg [.int .u64 0, .int .u64 0, .int .u32 0, .int .u8 0, .int .u8 0, .int .u8 0, .int .u8 0, .nilf, .nilp, .int .i32 0, .int .i32 0]) := by kernel_rfl
theorem s278 : szT Try.prog 278 = some 11 := by kernel_rfl
theorem b278 : byT Try.prog 278 = some 48 := by kernel_rfl
theorem a278 : aggT Try.prog 278 = some true := by kernel_rfl
theorem z278 : zT Try.prog 278 = some (.agg [.int .u64 0, .int .u64 0, .int .u32 0, .int .u8 0, .int .u8 0, .int .u8 0, .int .u8 0, .nilf, .nilp, .int .i32 0, .int .i32 0]) := by kernel_rfl
attribute [go_sem] g1 s2 b2 a2 z2 s3 b3 a3 z3 s4 b4 a4 z4 s5 b5 a5 z5 s6 b6 a6 z6 s7 b7 a7 g7 h7 z7 s8 b8 a8 g8 h8 z8 s9 b9 a9 z9 s10 b10 a10 z10 s11 b11 a11 z11 s12 b12 a12 z12 s13 b13 a13 z13 s14 b14 a14 z14 g15 s15 b15 a15 z15 g16 s16 b16 a16 z16 g17 s17 b17 a17 z17 s18 b18 a18 z18 s19 b19 a19 z19 s20 b20 a20 z20 s21 b21 a21 z21 g22 s22 b22 a22 z22 g24 g25 g26 g27 g28 g29 g30 g31 s32 b32 a32 z32 g34 g36 g37 g38 g39 g40 s40 b40 a40 z40 g42 g43 g44 g45 g46 g47 s48 b48 a48 g48 h48 z48 s49 b49 a49 g49 h49 z49 g50 g52 g53 g54 g55 g56 g57 s57 b57 a57 z57 g58 g59 g60 s60 b60 a60 z60 g61 g62 g63 g64 s65 b65 a65 g65 h65 z65 s66 b66 a66 g66 h66 z66 s67 b67 a67 g67 h67 z67 s68 b68 a68 g68 h68 z68 g70 g71 g72 s73 b73 a73 g73 h73 z73 g74 g75 g76 g77 s78 b78 a78 g78 h78 z78 s79 b79 a79 g79 h79 z79 s80 b80 a80 g80 h80 z80 s81 b81 a81 g81 h81 z81 g82 g83 g84 g86 g88 s89 b89 a89 g89 h89 z89 s90 b90 a90 g90 h90 z90 g92 g93 g94 s94 b94 a94 z94 g95 g96 s97 b97 a97 z97 s98 b98 a98 z98 g99 g100 g101 g103 g104 g105 g106 g108 g109 s110 b110 a110 g110 h110 z110 s111 b111 a111 g111 h111 z111 g113 g114 g116 g117 g118 s119 b119 a119 g119 h119 z119 s120 b120 a120 g120 h120 z120 g122 g123 g124 g125 g126 g127 g128 g129 g130 g131 g132 g134 g135 g136 s136 b136 a136 z136 g137 s137 b137 a137 z137 g138 g139 g140 g141 g142 g144 g145 s146 b146 a146 z146 g147 g149 g150 s151 b151 a151 g151 h151 z151 g152 s153 b153 a153 g153 h153 z153 g154 g155 g156 g157 g158 g159 g160 g161 g162 g163 g164 g165 s165 b165 a165 z165 s166 b166 a166 z166 s167 b167 a167 z167 s168 b168 a168 z168 g169 g170 s170 b170 a170 z170 g171 g172 g174 g175 g176 s176 b176 a176 z176 g177 g178 s179 b179 a179 g179 h179 z179 s180 b180 a180 g180 h180 z180 g181 s181 b181 a181 z181 g182 s183 b183 a183 g183 h183 z183 g184 g185 g186 s186 b186 a186 z186 g187 s188 b188 a188 g188 h188 z188 s189 b189 a189 g189 h189 z189 g190 g191 g192 g193 g195 g196 s197 b197 a197 g197 h197 z197 g198 g199 g200 g201 g202 s203 b203 a203 g203 h203 z203 g204 s205 b205 a205 g205 h205 z205 s206 b206 a206 g206 h206 z206 g207 g208 g209 s209 b209 a209 z209 s210 b210 a210 z210 s211 b211 a211 z211 s212 b212 a212 z212 s213 b213 a213 z213 g215 g216 g217 g218 g219 s220 b220 a220 g220 h220 z220 s221 b221 a221 g221 h221 z221 g222 g223 g225 g226 g227 g228 g229 s229 b229 a229 z229 g230 g231 g232 s232 b232 a232 z232 g233 g234 g235 g236 g237 g239 g240 g241 g242 g243 s243 b243 a243 z243 g244 s244 b244 a244 z244 s245 b245 a245 g245 h245 z245 s246 b246 a246 z246 g248 g249 s249 b249 a249 g250 g251 g252 g254 g255 s256 b256 a256 z256 g258 g260 s261 b261 a261 g261 h261 z261 g262 g263 s264 b264 a264 g264 h264 z264 g265 g266 s267 b267 a267 z267 s268 b268 a268 z268 s269 b269 a269 z269 s270 b270 a270 z270 s271 b271 a271 z271 s272 b272 a272 z272 s273 b273 a273 z273 g274 s275 b275 a275 z275 s276 b276 a276 z276 s277 b277 a277 z277 s278 b278 a278 z278 Try.underlying1 Try.underlying2 Try.underlying3 Try.underlying4 Try.underlying5 Try.underlying6 Try.underlying7 Try.underlying8 Try.underlying9 Try.underlying10 Try.underlying11 Try.underlying12 Try.underlying13 Try.underlying14 Try.underlying15 Try.underlying16 Try.underlying17 Try.underlying18 Try.underlying19 Try.underlying20 Try.underlying21 Try.underlying22 Try.underlying24 Try.underlying25 Try.underlying26 Try.underlying27 Try.underlying28 Try.underlying29 Try.underlying30 Try.underlying31 Try.underlying32 Try.underlying34 Try.underlying36 Try.underlying37 Try.underlying38 Try.underlying39 Try.underlying40 Try.underlying42 Try.underlying43 Try.underlying44 Try.underlying45 Try.underlying46 Try.underlying47 Try.underlying48 Try.underlying49 Try.underlying50 Try.underlying52 Try.underlying53 Try.underlying54 Try.underlying55 Try.underlying56 Try.underlying57 Try.underlying58 Try.underlying59 Try.underlying60 Try.underlying61 Try.underlying62 Try.underlying63 Try.underlying64 Try.underlying65 Try.underlying66 Try.underlying67 Try.underlying68 Try.underlying70 Try.underlying71 Try.underlying72 Try.underlying73 Try.underlying74 Try.underlying75 Try.underlying76 Try.underlying77 Try.underlying78 Try.underlying79 Try.underlying80 Try.underlying81 Try.underlying82 Try.underlying83 Try.underlying84 Try.underlying86 Try.underlying88 Try.underlying89 Try.underlying90 Try.underlying92 Try.underlying93 Try.underlying94 Try.underlying95 Try.underlying96 Try.underlying97 Try.underlying98 Try.underlying99 Try.underlying100 Try.underlying101 Try.underlying103 Try.underlying104 Try.underlying105 Try.underlying106 Try.underlying108 Try.underlying109 Try.underlying110 Try.underlying111 Try.underlying113 Try.underlying114 Try.underlying116 Try.underlying117 Try.underlying118 Try.underlying119 Try.underlying120 Try.underlying122 Try.underlying123 Try.underlying124 Try.underlying125 Try.underlying126 Try.underlying127 Try.underlying128 Try.underlying129 Try.underlying130 Try.underlying131 Try.underlying132 Try.underlying134 Try.underlying135 Try.underlying136 Try.underlying137 Try.underlying138 Try.underlying139 Try.underlying140 Try.underlying141 Try.underlying142 Try.underlying144 Try.underlying145 Try.underlying146 Try.underlying147 Try.underlying149 Try.underlying150 Try.underlying151 Try.underlying152 Try.underlying153 Try.underlying154 Try.underlying155 Try.underlying156 Try.underlying157 Try.underlying158 Try.underlying159 Try.underlying160 Try.underlying161 Try.underlying162 Try.underlying163 Try.underlying164 Try.underlying165 Try.underlying166 Try.underlying167 Try.underlying168 Try.underlying169 Try.underlying170 Try.underlying171 Try.underlying172 Try.underlying174 Try.underlying175 Try.underlying176 Try.underlying177 Try.underlying178 Try.underlying179 Try.underlying180 Try.underlying181 Try.underlying182 Try.underlying183 Try.underlying184 Try.underlying185 Try.underlying186 Try.underlying187 Try.underlying188 Try.underlying189 Try.underlying190 Try.underlying191 Try.underlying192 Try.underlying193 Try.underlying195 Try.underlying196 Try.underlying197 Try.underlying198 Try.underlying199 Try.underlying200 Try.underlying201 Try.underlying202 Try.underlying203 Try.underlying204 Try.underlying205 Try.underlying206 Try.underlying207 Try.underlying208 Try.underlying209 Try.underlying210 Try.underlying211 Try.underlying212 Try.underlying213 Try.underlying215 Try.underlying216 Try.underlying217 Try.underlying218 Try.underlying219 Try.underlying220 Try.underlying221 Try.underlying222 Try.underlying223 Try.underlying225 Try.underlying226 Try.underlying227 Try.underlying228 Try.underlying229 Try.underlying230 Try.underlying231 Try.underlying232 Try.underlying233 Try.underlying234 Try.underlying235 Try.underlying236 Try.underlying237 Try.underlying239 Try.underlying240 Try.underlying241 Try.underlying242 Try.underlying243 Try.underlying244 Try.underlying245 Try.underlying246 Try.underlying248 Try.underlying249 Try.underlying250 Try.underlying251 Try.underlying252 Try.underlying254 Try.underlying255 Try.underlying256 Try.underlying258 Try.underlying260 Try.underlying261 Try.underlying262 Try.underlying263 Try.underlying264 Try.underlying265 Try.underlying266 Try.underlying267 Try.underlying268 Try.underlying269 Try.underlying270 Try.underlying271 Try.underlying272 Try.underlying273 Try.underlying274 Try.underlying275 Try.underlying276 Try.underlying277 Try.underlying278
end Go.Proofs.Try.Ty
