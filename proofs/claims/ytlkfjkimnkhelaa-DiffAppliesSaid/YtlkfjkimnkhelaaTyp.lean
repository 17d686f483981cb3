/- Facts about the seat's types. No condition. -/
import Derived.Test.YtlkfjkimnkhelaaAbsT
import Derived.Test.YtlkfjkimnkhelaaProg
import Derived.KernelRfl
set_option linter.unusedVariables false
namespace Go.Proofs.Try.Ty
open Go Go.Abs Go.Proofs

theorem mixed : Try.prog.follows .mixedOrders = true := by kernel_rfl
theorem g1 : Try.prog.eqGuardType Try.prog.depth 1 = false := by kernel_rfl
theorem s2 : szT Try.prog 2 = some 1 := by kernel_rfl
theorem b2 : byT Try.prog 2 = some 8 := by kernel_rfl
theorem a2 : aggT Try.prog 2 = some false := by kernel_rfl
theorem z2 : zT Try.prog 2 = some (.int .i64 0) := by kernel_rfl
theorem s3 : szT Try.prog 3 = some 1 := by kernel_rfl
theorem b3 : byT Try.prog 3 = some 8 := by kernel_rfl
theorem a3 : aggT Try.prog 3 = some false := by kernel_rfl
theorem z3 : zT Try.prog 3 = some (.int .i64 0) := by kernel_rfl
theorem s4 : szT Try.prog 4 = some 1 := by kernel_rfl
theorem b4 : byT Try.prog 4 = some 1 := by kernel_rfl
theorem a4 : aggT Try.prog 4 = some false := by kernel_rfl
theorem z4 : zT Try.prog 4 = some (.bool false) := by kernel_rfl
theorem s5 : szT Try.prog 5 = some 1 := by kernel_rfl
theorem b5 : byT Try.prog 5 = some 1 := by kernel_rfl
theorem a5 : aggT Try.prog 5 = some false := by kernel_rfl
theorem z5 : zT Try.prog 5 = some (.int .u8 0) := by kernel_rfl
theorem s6 : szT Try.prog 6 = some 1 := by kernel_rfl
theorem b6 : byT Try.prog 6 = some 1 := by kernel_rfl
theorem a6 : aggT Try.prog 6 = some false := by kernel_rfl
theorem z6 : zT Try.prog 6 = some (.int .u8 0) := by kernel_rfl
theorem s7 : szT Try.prog 7 = some 4 := by kernel_rfl
theorem b7 : byT Try.prog 7 = some 24 := by kernel_rfl
theorem a7 : aggT Try.prog 7 = some true := by kernel_rfl
theorem g7 : Try.prog.eqGuardType Try.prog.depth 7 = false := by kernel_rfl
theorem h7 : Try.prog.stoodInHeld 7 = false := by kernel_rfl
theorem z7 : zT Try.prog 7 = some (.agg [.int .i64 0, .int .i64 0, .bool false, .int .u8 0]) := by kernel_rfl
theorem s8 : szT Try.prog 8 = some 4 := by kernel_rfl
theorem b8 : byT Try.prog 8 = some 24 := by kernel_rfl
theorem a8 : aggT Try.prog 8 = some true := by kernel_rfl
theorem g8 : Try.prog.eqGuardType Try.prog.depth 8 = false := by kernel_rfl
theorem h8 : Try.prog.stoodInHeld 8 = false := by kernel_rfl
theorem z8 : zT Try.prog 8 = some (.agg [.int .i64 0, .int .i64 0, .bool false, .int .u8 0]) := by kernel_rfl
theorem s9 : szT Try.prog 9 = some 1 := by kernel_rfl
theorem b9 : byT Try.prog 9 = some 16 := by kernel_rfl
theorem a9 : aggT Try.prog 9 = some false := by kernel_rfl
theorem z9 : zT Try.prog 9 = some (.str []) := by kernel_rfl
theorem s10 : szT Try.prog 10 = some 1 := by kernel_rfl
theorem b10 : byT Try.prog 10 = some 16 := by kernel_rfl
theorem a10 : aggT Try.prog 10 = some false := by kernel_rfl
theorem z10 : zT Try.prog 10 = some (.str []) := by kernel_rfl
theorem s11 : szT Try.prog 11 = some 1 := by kernel_rfl
theorem b11 : byT Try.prog 11 = some 16 := by kernel_rfl
theorem a11 : aggT Try.prog 11 = some false := by kernel_rfl
theorem z11 : zT Try.prog 11 = some (.str []) := by kernel_rfl
theorem s12 : szT Try.prog 12 = some 1 := by kernel_rfl
theorem b12 : byT Try.prog 12 = some 8 := by kernel_rfl
theorem a12 : aggT Try.prog 12 = some false := by kernel_rfl
theorem z12 : zT Try.prog 12 = some (.int .u64 0) := by kernel_rfl
theorem s13 : szT Try.prog 13 = some 2 := by kernel_rfl
theorem b13 : byT Try.prog 13 = some 24 := by kernel_rfl
theorem a13 : aggT Try.prog 13 = some true := by kernel_rfl
theorem z13 : zT Try.prog 13 = some (.agg [.str [], .int .u64 0]) := by kernel_rfl
theorem s14 : szT Try.prog 14 = some 2 := by kernel_rfl
theorem b14 : byT Try.prog 14 = some 24 := by kernel_rfl
theorem a14 : aggT Try.prog 14 = some true := by kernel_rfl
theorem z14 : zT Try.prog 14 = some (.agg [.str [], .int .u64 0]) := by kernel_rfl
theorem g15 : Try.prog.eqGuardType Try.prog.depth 15 = false := by kernel_rfl
theorem s15 : szT Try.prog 15 = some 1 := by kernel_rfl
theorem b15 : byT Try.prog 15 = some 8 := by kernel_rfl
theorem a15 : aggT Try.prog 15 = some false := by kernel_rfl
theorem z15 : zT Try.prog 15 = some (.nilp) := by kernel_rfl
theorem g16 : Try.prog.eqGuardType Try.prog.depth 16 = false := by kernel_rfl
theorem s16 : szT Try.prog 16 = some 1 := by kernel_rfl
theorem b16 : byT Try.prog 16 = some 8 := by kernel_rfl
theorem a16 : aggT Try.prog 16 = some false := by kernel_rfl
theorem z16 : zT Try.prog 16 = some (.nilp) := by kernel_rfl
theorem g17 : Try.prog.eqGuardType Try.prog.depth 17 = false := by kernel_rfl
theorem s17 : szT Try.prog 17 = some 1 := by kernel_rfl
theorem b17 : byT Try.prog 17 = some 8 := by kernel_rfl
theorem a17 : aggT Try.prog 17 = some false := by kernel_rfl
theorem z17 : zT Try.prog 17 = some (.nilp) := by kernel_rfl
theorem s18 : szT Try.prog 18 = some 1 := by kernel_rfl
theorem b18 : byT Try.prog 18 = some 8 := by kernel_rfl
theorem a18 : aggT Try.prog 18 = some true := by kernel_rfl
theorem z18 : zT Try.prog 18 = some (.agg [.nilp]) := by kernel_rfl
theorem s19 : szT Try.prog 19 = some 1 := by kernel_rfl
theorem b19 : byT Try.prog 19 = some 8 := by kernel_rfl
theorem a19 : aggT Try.prog 19 = some true := by kernel_rfl
theorem z19 : zT Try.prog 19 = some (.agg [.nilp]) := by kernel_rfl
theorem s20 : szT Try.prog 20 = some 1 := by kernel_rfl
theorem b20 : byT Try.prog 20 = some 16 := by kernel_rfl
theorem a20 : aggT Try.prog 20 = some false := by kernel_rfl
theorem z20 : zT Try.prog 20 = some (.nili) := by kernel_rfl
theorem s21 : szT Try.prog 21 = some 1 := by kernel_rfl
theorem b21 : byT Try.prog 21 = some 4 := by kernel_rfl
theorem a21 : aggT Try.prog 21 = some false := by kernel_rfl
theorem z21 : zT Try.prog 21 = some (.int .i32 0) := by kernel_rfl
theorem g22 : Try.prog.eqGuardType Try.prog.depth 22 = false := by kernel_rfl
theorem s22 : szT Try.prog 22 = some 1 := by kernel_rfl
theorem b22 : byT Try.prog 22 = some 24 := by kernel_rfl
theorem a22 : aggT Try.prog 22 = some false := by kernel_rfl
theorem z22 : zT Try.prog 22 = some (.nils) := by kernel_rfl
theorem g23 : Try.prog.eqGuardType Try.prog.depth 23 = false := by kernel_rfl
theorem g24 : Try.prog.eqGuardType Try.prog.depth 24 = false := by kernel_rfl
theorem g25 : Try.prog.eqGuardType Try.prog.depth 25 = false := by kernel_rfl
theorem g26 : Try.prog.eqGuardType Try.prog.depth 26 = false := by kernel_rfl
theorem s26 : szT Try.prog 26 = some 1 := by kernel_rfl
theorem b26 : byT Try.prog 26 = some 24 := by kernel_rfl
theorem a26 : aggT Try.prog 26 = some false := by kernel_rfl
theorem z26 : zT Try.prog 26 = some (.nils) := by kernel_rfl
theorem g27 : Try.prog.eqGuardType Try.prog.depth 27 = false := by kernel_rfl
theorem g28 : Try.prog.eqGuardType Try.prog.depth 28 = false := by kernel_rfl
theorem s28 : szT Try.prog 28 = some 1 := by kernel_rfl
theorem b28 : byT Try.prog 28 = some 24 := by kernel_rfl
theorem a28 : aggT Try.prog 28 = some false := by kernel_rfl
theorem z28 : zT Try.prog 28 = some (.nils) := by kernel_rfl
theorem g29 : Try.prog.eqGuardType Try.prog.depth 29 = false := by kernel_rfl
theorem g30 : Try.prog.eqGuardType Try.prog.depth 30 = false := by kernel_rfl
theorem s31 : szT Try.prog 31 = some 2 := by kernel_rfl
theorem b31 : byT Try.prog 31 = some 24 := by kernel_rfl
theorem a31 : aggT Try.prog 31 = some true := by kernel_rfl
theorem g31 : Try.prog.eqGuardType Try.prog.depth 31 = false := by kernel_rfl
theorem h31 : Try.prog.stoodInHeld 31 = false := by kernel_rfl
theorem z31 : zT Try.prog 31 = some (.agg [.int .i64 0, .str []]) := by kernel_rfl
theorem s32 : szT Try.prog 32 = some 2 := by kernel_rfl
theorem b32 : byT Try.prog 32 = some 24 := by kernel_rfl
theorem a32 : aggT Try.prog 32 = some true := by kernel_rfl
theorem g32 : Try.prog.eqGuardType Try.prog.depth 32 = false := by kernel_rfl
theorem h32 : Try.prog.stoodInHeld 32 = false := by kernel_rfl
theorem z32 : zT Try.prog 32 = some (.agg [.int .i64 0, .str []]) := by kernel_rfl
theorem s33 : szT Try.prog 33 = some 2 := by kernel_rfl
theorem b33 : byT Try.prog 33 = some 24 := by kernel_rfl
theorem a33 : aggT Try.prog 33 = some true := by kernel_rfl
theorem g33 : Try.prog.eqGuardType Try.prog.depth 33 = false := by kernel_rfl
theorem h33 : Try.prog.stoodInHeld 33 = false := by kernel_rfl
theorem z33 : zT Try.prog 33 = some (.agg [.int .i64 0, .str []]) := by kernel_rfl
theorem g35 : Try.prog.eqGuardType Try.prog.depth 35 = false := by kernel_rfl
theorem g36 : Try.prog.eqGuardType Try.prog.depth 36 = false := by kernel_rfl
theorem g37 : Try.prog.eqGuardType Try.prog.depth 37 = false := by kernel_rfl
theorem g38 : Try.prog.eqGuardType Try.prog.depth 38 = false := by kernel_rfl
theorem g39 : Try.prog.eqGuardType Try.prog.depth 39 = false := by kernel_rfl
theorem s39 : szT Try.prog 39 = some 1 := by kernel_rfl
theorem b39 : byT Try.prog 39 = some 24 := by kernel_rfl
theorem a39 : aggT Try.prog 39 = some false := by kernel_rfl
theorem z39 : zT Try.prog 39 = some (.nils) := by kernel_rfl
theorem s40 : szT Try.prog 40 = some 6 := by kernel_rfl
theorem b40 : byT Try.prog 40 = some 88 := by kernel_rfl
theorem a40 : aggT Try.prog 40 = some true := by kernel_rfl
theorem z40 : zT Try.prog 40 = some (.agg [.str [], .str [], .int .i64 0, .int .i64 0, .str [], .nils]) := by kernel_rfl
theorem s41 : szT Try.prog 41 = some 6 := by kernel_rfl
theorem b41 : byT Try.prog 41 = some 88 := by kernel_rfl
theorem a41 : aggT Try.prog 41 = some true := by kernel_rfl
theorem z41 : zT Try.prog 41 = some (.agg [.str [], .str [], .int .i64 0, .int .i64 0, .str [], .nils]) := by kernel_rfl
theorem g42 : Try.prog.eqGuardType Try.prog.depth 42 = false := by kernel_rfl
theorem g43 : Try.prog.eqGuardType Try.prog.depth 43 = false := by kernel_rfl
theorem g44 : Try.prog.eqGuardType Try.prog.depth 44 = false := by kernel_rfl
theorem s45 : szT Try.prog 45 = some 3 := by kernel_rfl
theorem b45 : byT Try.prog 45 = some 48 := by kernel_rfl
theorem a45 : aggT Try.prog 45 = some true := by kernel_rfl
theorem g45 : Try.prog.eqGuardType Try.prog.depth 45 = false := by kernel_rfl
theorem h45 : Try.prog.stoodInHeld 45 = false := by kernel_rfl
theorem z45 : zT Try.prog 45 = some (.agg [.str [], .str [], .str []]) := by kernel_rfl
theorem s46 : szT Try.prog 46 = some 3 := by kernel_rfl
theorem b46 : byT Try.prog 46 = some 48 := by kernel_rfl
theorem a46 : aggT Try.prog 46 = some true := by kernel_rfl
theorem g46 : Try.prog.eqGuardType Try.prog.depth 46 = false := by kernel_rfl
theorem h46 : Try.prog.stoodInHeld 46 = false := by kernel_rfl
theorem z46 : zT Try.prog 46 = some (.agg [.str [], .str [], .str []]) := by kernel_rfl
theorem s47 : szT Try.prog 47 = some 1 := by kernel_rfl
theorem b47 : byT Try.prog 47 = some 8 := by kernel_rfl
theorem a47 : aggT Try.prog 47 = some false := by kernel_rfl
theorem z47 : zT Try.prog 47 = some (.int .i64 0) := by kernel_rfl
theorem g49 : Try.prog.eqGuardType Try.prog.depth 49 = false := by kernel_rfl
theorem g50 : Try.prog.eqGuardType Try.prog.depth 50 = false := by kernel_rfl
theorem g51 : Try.prog.eqGuardType Try.prog.depth 51 = false := by kernel_rfl
theorem g52 : Try.prog.eqGuardType Try.prog.depth 52 = false := by kernel_rfl
theorem s52 : szT Try.prog 52 = some 1 := by kernel_rfl
theorem b52 : byT Try.prog 52 = some 24 := by kernel_rfl
theorem a52 : aggT Try.prog 52 = some false := by kernel_rfl
theorem z52 : zT Try.prog 52 = some (.nils) := by kernel_rfl
theorem g53 : Try.prog.eqGuardType Try.prog.depth 53 = false := by kernel_rfl
theorem g54 : Try.prog.eqGuardType Try.prog.depth 54 = false := by kernel_rfl
theorem g55 : Try.prog.eqGuardType Try.prog.depth 55 = false := by kernel_rfl
theorem s55 : szT Try.prog 55 = some 1 := by kernel_rfl
theorem b55 : byT Try.prog 55 = some 24 := by kernel_rfl
theorem a55 : aggT Try.prog 55 = some false := by kernel_rfl
theorem z55 : zT Try.prog 55 = some (.nils) := by kernel_rfl
theorem g56 : Try.prog.eqGuardType Try.prog.depth 56 = false := by kernel_rfl
theorem g57 : Try.prog.eqGuardType Try.prog.depth 57 = false := by kernel_rfl
theorem s58 : szT Try.prog 58 = some 3 := by kernel_rfl
theorem b58 : byT Try.prog 58 = some 48 := by kernel_rfl
theorem a58 : aggT Try.prog 58 = some true := by kernel_rfl
theorem g58 : Try.prog.eqGuardType Try.prog.depth 58 = false := by kernel_rfl
theorem h58 : Try.prog.stoodInHeld 58 = false := by kernel_rfl
theorem z58 : zT Try.prog 58 = some (.agg [.str [], .str [], .str []]) := by kernel_rfl
theorem g59 : Try.prog.eqGuardType Try.prog.depth 59 = false := by kernel_rfl
theorem g60 : Try.prog.eqGuardType Try.prog.depth 60 = false := by kernel_rfl
theorem s60 : szT Try.prog 60 = some 1 := by kernel_rfl
theorem b60 : byT Try.prog 60 = some 24 := by kernel_rfl
theorem a60 : aggT Try.prog 60 = some false := by kernel_rfl
theorem z60 : zT Try.prog 60 = some (.nils) := by kernel_rfl
theorem g61 : Try.prog.eqGuardType Try.prog.depth 61 = false := by kernel_rfl
theorem s62 : szT Try.prog 62 = some 2 := by kernel_rfl
theorem b62 : byT Try.prog 62 = some 32 := by kernel_rfl
theorem a62 : aggT Try.prog 62 = some true := by kernel_rfl
theorem g62 : Try.prog.eqGuardType Try.prog.depth 62 = false := by kernel_rfl
theorem h62 : Try.prog.stoodInHeld 62 = false := by kernel_rfl
theorem z62 : zT Try.prog 62 = some (.agg [.str [], .str []]) := by kernel_rfl
theorem s63 : szT Try.prog 63 = some 2 := by kernel_rfl
theorem b63 : byT Try.prog 63 = some 32 := by kernel_rfl
theorem a63 : aggT Try.prog 63 = some true := by kernel_rfl
theorem g63 : Try.prog.eqGuardType Try.prog.depth 63 = false := by kernel_rfl
theorem h63 : Try.prog.stoodInHeld 63 = false := by kernel_rfl
theorem z63 : zT Try.prog 63 = some (.agg [.str [], .str []]) := by kernel_rfl
theorem g64 : Try.prog.eqGuardType Try.prog.depth 64 = false := by kernel_rfl
theorem g65 : Try.prog.eqGuardType Try.prog.depth 65 = false := by kernel_rfl
theorem s65 : szT Try.prog 65 = some 1 := by kernel_rfl
theorem b65 : byT Try.prog 65 = some 8 := by kernel_rfl
theorem a65 : aggT Try.prog 65 = some false := by kernel_rfl
theorem z65 : zT Try.prog 65 = some (.nilp) := by kernel_rfl
theorem g66 : Try.prog.eqGuardType Try.prog.depth 66 = false := by kernel_rfl
theorem g67 : Try.prog.eqGuardType Try.prog.depth 67 = false := by kernel_rfl
theorem g68 : Try.prog.eqGuardType Try.prog.depth 68 = false := by kernel_rfl
theorem g69 : Try.prog.eqGuardType Try.prog.depth 69 = false := by kernel_rfl
theorem g70 : Try.prog.eqGuardType Try.prog.depth 70 = false := by kernel_rfl
theorem g71 : Try.prog.eqGuardType Try.prog.depth 71 = false := by kernel_rfl
theorem g72 : Try.prog.eqGuardType Try.prog.depth 72 = false := by kernel_rfl
theorem g74 : Try.prog.eqGuardType Try.prog.depth 74 = false := by kernel_rfl
theorem g75 : Try.prog.eqGuardType Try.prog.depth 75 = false := by kernel_rfl
theorem g76 : Try.prog.eqGuardType Try.prog.depth 76 = false := by kernel_rfl
theorem g77 : Try.prog.eqGuardType Try.prog.depth 77 = false := by kernel_rfl
theorem g78 : Try.prog.eqGuardType Try.prog.depth 78 = false := by kernel_rfl
theorem g79 : Try.prog.eqGuardType Try.prog.depth 79 = false := by kernel_rfl
theorem g81 : Try.prog.eqGuardType Try.prog.depth 81 = false := by kernel_rfl
theorem g82 : Try.prog.eqGuardType Try.prog.depth 82 = false := by kernel_rfl
theorem s83 : szT Try.prog 83 = some 2 := by kernel_rfl
theorem b83 : byT Try.prog 83 = some 24 := by kernel_rfl
theorem a83 : aggT Try.prog 83 = some true := by kernel_rfl
theorem g83 : Try.prog.eqGuardType Try.prog.depth 83 = false := by kernel_rfl
theorem h83 : Try.prog.stoodInHeld 83 = false := by kernel_rfl
theorem z83 : zT Try.prog 83 = some (.agg [.str [], .int .i64 0]) := by kernel_rfl
theorem s84 : szT Try.prog 84 = some 2 := by kernel_rfl
theorem b84 : byT Try.prog 84 = some 24 := by kernel_rfl
theorem a84 : aggT Try.prog 84 = some true := by kernel_rfl
theorem g84 : Try.prog.eqGuardType Try.prog.depth 84 = false := by kernel_rfl
theorem h84 : Try.prog.stoodInHeld 84 = false := by kernel_rfl
theorem z84 : zT Try.prog 84 = some (.agg [.str [], .int .i64 0]) := by kernel_rfl
theorem g85 : Try.prog.eqGuardType Try.prog.depth 85 = false := by kernel_rfl
theorem g86 : Try.prog.eqGuardType Try.prog.depth 86 = false := by kernel_rfl
theorem g87 : Try.prog.eqGuardType Try.prog.depth 87 = false := by kernel_rfl
theorem g88 : Try.prog.eqGuardType Try.prog.depth 88 = false := by kernel_rfl
theorem g89 : Try.prog.eqGuardType Try.prog.depth 89 = false := by kernel_rfl
theorem g91 : Try.prog.eqGuardType Try.prog.depth 91 = false := by kernel_rfl
theorem g92 : Try.prog.eqGuardType Try.prog.depth 92 = false := by kernel_rfl
theorem g94 : Try.prog.eqGuardType Try.prog.depth 94 = false := by kernel_rfl
theorem g95 : Try.prog.eqGuardType Try.prog.depth 95 = false := by kernel_rfl
theorem s95 : szT Try.prog 95 = some 1 := by kernel_rfl
theorem b95 : byT Try.prog 95 = some 8 := by kernel_rfl
theorem a95 : aggT Try.prog 95 = some false := by kernel_rfl
theorem z95 : zT Try.prog 95 = some (.nilp) := by kernel_rfl
theorem g96 : Try.prog.eqGuardType Try.prog.depth 96 = false := by kernel_rfl
theorem s96 : szT Try.prog 96 = some 1 := by kernel_rfl
theorem b96 : byT Try.prog 96 = some 24 := by kernel_rfl
theorem a96 : aggT Try.prog 96 = some false := by kernel_rfl
theorem z96 : zT Try.prog 96 = some (.nils) := by kernel_rfl
theorem s97 : szT Try.prog 97 = some 2 := by kernel_rfl
theorem b97 : byT Try.prog 97 = some 32 := by kernel_rfl
theorem a97 : aggT Try.prog 97 = some true := by kernel_rfl
theorem z97 : zT Try.prog 97 = some (.agg [.nilp, .nils]) := by kernel_rfl
theorem s98 : szT Try.prog 98 = some 2 := by kernel_rfl
theorem b98 : byT Try.prog 98 = some 32 := by kernel_rfl
theorem a98 : aggT Try.prog 98 = some true := by kernel_rfl
theorem z98 : zT Try.prog 98 = some (.agg [.nilp, .nils]) := by kernel_rfl
theorem g99 : Try.prog.eqGuardType Try.prog.depth 99 = false := by kernel_rfl
theorem s100 : szT Try.prog 100 = some 1 := by kernel_rfl
theorem b100 : byT Try.prog 100 = some 16 := by kernel_rfl
theorem a100 : aggT Try.prog 100 = some false := by kernel_rfl
theorem z100 : zT Try.prog 100 = some (.nili) := by kernel_rfl
theorem s101 : szT Try.prog 101 = some 1 := by kernel_rfl
theorem b101 : byT Try.prog 101 = some 16 := by kernel_rfl
theorem a101 : aggT Try.prog 101 = some false := by kernel_rfl
theorem z101 : zT Try.prog 101 = some (.nili) := by kernel_rfl
theorem g103 : Try.prog.eqGuardType Try.prog.depth 103 = false := by kernel_rfl
theorem g104 : Try.prog.eqGuardType Try.prog.depth 104 = false := by kernel_rfl
theorem g105 : Try.prog.eqGuardType Try.prog.depth 105 = false := by kernel_rfl
theorem s105 : szT Try.prog 105 = some 1 := by kernel_rfl
theorem b105 : byT Try.prog 105 = some 8 := by kernel_rfl
theorem a105 : aggT Try.prog 105 = some false := by kernel_rfl
theorem g106 : Try.prog.eqGuardType Try.prog.depth 106 = false := by kernel_rfl
theorem g107 : Try.prog.eqGuardType Try.prog.depth 107 = false := by kernel_rfl
theorem g108 : Try.prog.eqGuardType Try.prog.depth 108 = false := by kernel_rfl
theorem g109 : Try.prog.eqGuardType Try.prog.depth 109 = false := by kernel_rfl
theorem g110 : Try.prog.eqGuardType Try.prog.depth 110 = false := by kernel_rfl
theorem g111 : Try.prog.eqGuardType Try.prog.depth 111 = false := by kernel_rfl
theorem g112 : Try.prog.eqGuardType Try.prog.depth 112 = false := by kernel_rfl
theorem g113 : Try.prog.eqGuardType Try.prog.depth 113 = false := by kernel_rfl
theorem g114 : Try.prog.eqGuardType Try.prog.depth 114 = false := by kernel_rfl
theorem s115 : szT Try.prog 115 = some 256 := by kernel_rfl
theorem b115 : byT Try.prog 115 = some 256 := by kernel_rfl
theorem a115 : aggT Try.prog 115 = some true := by kernel_rfl
theorem g115 : Try.prog.eqGuardType Try.prog.depth 115 = false := by kernel_rfl
theorem h115 : Try.prog.stoodInHeld 115 = false := by kernel_rfl
theorem z115 : zT Try.prog 115 = some (.agg [.bool false, .bool false, .bool false, .bool false, .bool false, .bool false, .bool false, .bool false, .bool false, .bool false, .bool false, .bool false, .bool false, .bool false, .bool false, .bool false, .bool false, .bool false, .bool false, .bool false, .bool false, .bool false, .bool false, .bool false, .bool false, .bool false, .bool false, .bool false, .bool false, .bool false, .bool false, .bool false, .bool false, .bool false, .bool false, .bool false, .bool false, .bool false, .bool false, .bool false, .bool false, .bool false, .bool false, .bool false, .bool false, .bool false, .bool false, .bool false, .bool false, .bool false, .bool false, .bool false, .bool false, .bool false, .bool false, .bool false, .bool false, .bool false, .bool false, .bool false, .bool false, .bool false, .bool false, .bool false, .bool false, .bool false, .bool false, .bool false, .bool false, .bool false, .bool false, .bool false, .bool false, .bool false, .bool false, .bool false, .bool false, .bool false, .bool false, .bool false, .bool false, .bool false, .bool false, .bool false, .bool false, .bool false, .bool false, .bool false, .bool false, .bool false, .bool false, .bool false, .bool false, .bool false, .bool false, .bool false, .bool false, .bool false, .bool false, .bool false, .bool false, .bool false, .bool false, .bool false, .bool false, .bool false, .bool false, .bool false, .bool false, .bool false, .bool false, .bool false, .bool false, .bool false, .bool false, .bool false, .bool false, .bool false, .bool false, .bool false, .bool false, .bool false, .bool false, .bool false, .bool false, .bool false, .bool false, .bool false, .bool false, .bool false, .bool false, .bool false, .bool false, .bool false, .bool false, .bool false, .bool false, .bool false, .bool false, .bool false, .bool false, .bool false, .bool false, .bool false, .bool false, .bool false, .bool false, .bool false, .bool false, .bool false, .bool false, .bool false, .bool false, .bool false, .bool false, .bool false, .bool false, .bool false, .bool false, .bool false, .bool false, .bool false, .bool false, .bool false, .bool false, .bool false, .bool false, .bool false, .bool false, .bool false, .bool false, .bool false, .bool false, .bool false, .bool false, .bool false, .bool false, .bool false, .bool false, .bool false, .bool false, .bool false, .bool false, .bool false, .bool false, .bool false, .bool false, .bool false, .bool false, .bool false, .bool false, .bool false, .bool false, .bool false, .bool false, .bool false, .bool false, .bool false, .bool false, .bool false, .bool false, .bool false, .bool false, .bool false, .bool false, .bool false, .bool false, .bool false, .bool false, .bool false, .bool false, .bool false, .bool false, .bool false, .bool false, .bool false, .bool false, .bool false, .bool false, .bool false, .bool false, .bool false, .bool false, .bool false, .bool false, .bool false, .bool false, .bool false, .bool false, .bool false, .bool false, .bool false, .bool false, .bool false, .bool false, .bool false, .bool false, .bool false, .bool false, .bool false, .bool false, .bool false, .bool false, .bool false, .bool false, .bool false, .bool false, .bool false, .bool false, .bool false, .bool false, .bool false, .bool false, .bool false, .bool false, .bool false]) := by kernel_rfl
theorem s116 : szT Try.prog 116 = some 256 := by kernel_rfl
theorem b116 : byT Try.prog 116 = some 256 := by kernel_rfl
theorem a116 : aggT Try.prog 116 = some true := by kernel_rfl
theorem g116 : Try.prog.eqGuardType Try.prog.depth 116 = false := by kernel_rfl
theorem h116 : Try.prog.stoodInHeld 116 = false := by kernel_rfl
theorem z116 : zT Try.prog 116 = some (.agg [.bool false, .bool false, .bool false, .bool false, .bool false, .bool false, .bool false, .bool false, .bool false, .bool false, .bool false, .bool false, .bool false, .bool false, .bool false, .bool false, .bool false, .bool false, .bool false, .bool false, .bool false, .bool false, .bool false, .bool false, .bool false, .bool false, .bool false, .bool false, .bool false, .bool false, .bool false, .bool false, .bool false, .bool false, .bool false, .bool false, .bool false, .bool false, .bool false, .bool false, .bool false, .bool false, .bool false, .bool false, .bool false, .bool false, .bool false, .bool false, .bool false, .bool false, .bool false, .bool false, .bool false, .bool false, .bool false, .bool false, .bool false, .bool false, .bool false, .bool false, .bool false, .bool false, .bool false, .bool false, .bool false, .bool false, .bool false, .bool false, .bool false, .bool false, .bool false, .bool false, .bool false, .bool false, .bool false, .bool false, .bool false, .bool false, .bool false, .bool false, .bool false, .bool false, .bool false, .bool false, .bool false, .bool false, .bool false, .bool false, .bool false, .bool false, .bool false, .bool false, .bool false, .bool false, .bool false, .bool false, .bool false, .bool false, .bool false, .bool false, .bool false, .bool false, .bool false, .bool false, .bool false, .bool false, .bool false, .bool false, .bool false, .bool false, .bool false, .bool false, .bool false, .bool false, .bool false, .bool false, .bool false, .bool false, .bool false, .bool false, .bool false, .bool false, .bool false, .bool false, .bool false, .bool false, .bool false, .bool false, .bool false, .bool false, .bool false, .bool false, .bool false, .bool false, .bool false, .bool false, .bool false, .bool false, .bool false, .bool false, .bool false, .bool false, .bool false, .bool false, .bool false, .bool false, .bool false, .bool false, .bool false, .bool false, .bool false, .bool false, .bool false, .bool false, .bool false, .bool false, .bool false, .bool false, .bool false, .bool false, .bool false, .bool false, .bool false, .bool false, .bool false, .bool false, .bool false, .bool false, .bool false, .bool false, .bool false, .bool false, .bool false, .bool false, .bool false, .bool false, .bool false, .bool false, .bool false, .bool false, .bool false, .bool false, .bool false, .bool false, .bool false, .bool false, .bool false, .bool false, .bool false, .bool false, .bool false, .bool false, .bool false, .bool false, .bool false, .bool false, .bool false, .bool false, .bool false, .bool false, .bool false, .bool false, .bool false, .bool false, .bool false, .bool false, .bool false, .bool false, .bool false, .bool false, .bool false, .bool false, .bool false, .bool false, .bool false, .bool false, .bool false, .bool false, .bool false, .bool false, .bool false, .bool false, .bool false, .bool false, .bool false, .bool false, .bool false, .bool false, .bool false, .bool false, .bool false, .bool false, .bool false, .bool false, .bool false, .bool false, .bool false, .bool false, .bool false, .bool false, .bool false, .bool false, .bool false, .bool false, .bool false, .bool false, .bool false, .bool false, .bool false, .bool false, .bool false, .bool false, .bool false, .bool false, .bool false, .bool false]) := by kernel_rfl
theorem g118 : Try.prog.eqGuardType Try.prog.depth 118 = false := by kernel_rfl
theorem g119 : Try.prog.eqGuardType Try.prog.depth 119 = false := by kernel_rfl
theorem g120 : Try.prog.eqGuardType Try.prog.depth 120 = false := by kernel_rfl
theorem g121 : Try.prog.eqGuardType Try.prog.depth 121 = false := by kernel_rfl
theorem g122 : Try.prog.eqGuardType Try.prog.depth 122 = false := by kernel_rfl
theorem g123 : Try.prog.eqGuardType Try.prog.depth 123 = false := by kernel_rfl
theorem s124 : szT Try.prog 124 = some 1 := by kernel_rfl
theorem b124 : byT Try.prog 124 = some 8 := by kernel_rfl
theorem a124 : aggT Try.prog 124 = some false := by kernel_rfl
theorem z124 : zT Try.prog 124 = some (.int .u64 0) := by kernel_rfl
theorem g125 : Try.prog.eqGuardType Try.prog.depth 125 = false := by kernel_rfl
theorem s125 : szT Try.prog 125 = some 1 := by kernel_rfl
theorem b125 : byT Try.prog 125 = some 8 := by kernel_rfl
theorem a125 : aggT Try.prog 125 = some false := by kernel_rfl
theorem z125 : zT Try.prog 125 = some (.nilp) := by kernel_rfl
theorem g126 : Try.prog.eqGuardType Try.prog.depth 126 = false := by kernel_rfl
theorem s127 : szT Try.prog 127 = some 4 := by kernel_rfl
theorem b127 : byT Try.prog 127 = some 64 := by kernel_rfl
theorem a127 : aggT Try.prog 127 = some true := by kernel_rfl
theorem g127 : Try.prog.eqGuardType Try.prog.depth 127 = false := by kernel_rfl
theorem h127 : Try.prog.stoodInHeld 127 = false := by kernel_rfl
theorem z127 : zT Try.prog 127 = some (.agg [.str [], .str [], .str [], .str []]) := by kernel_rfl
theorem g128 : Try.prog.eqGuardType Try.prog.depth 128 = false := by kernel_rfl
theorem g129 : Try.prog.eqGuardType Try.prog.depth 129 = false := by kernel_rfl
theorem g130 : Try.prog.eqGuardType Try.prog.depth 130 = false := by kernel_rfl
theorem g131 : Try.prog.eqGuardType Try.prog.depth 131 = false := by kernel_rfl
theorem g132 : Try.prog.eqGuardType Try.prog.depth 132 = false := by kernel_rfl
theorem g133 : Try.prog.eqGuardType Try.prog.depth 133 = false := by kernel_rfl
theorem s134 : szT Try.prog 134 = some 3 := by kernel_rfl
theorem b134 : byT Try.prog 134 = some 16 := by kernel_rfl
theorem a134 : aggT Try.prog 134 = some true := by kernel_rfl
theorem g134 : Try.prog.eqGuardType Try.prog.depth 134 = false := by kernel_rfl
theorem h134 : Try.prog.stoodInHeld 134 = false := by kernel_rfl
theorem z134 : zT Try.prog 134 = some (.agg [.bool false, .bool false, .int .i64 0]) := by kernel_rfl
theorem s135 : szT Try.prog 135 = some 3 := by kernel_rfl
theorem b135 : byT Try.prog 135 = some 16 := by kernel_rfl
theorem a135 : aggT Try.prog 135 = some true := by kernel_rfl
theorem g135 : Try.prog.eqGuardType Try.prog.depth 135 = false := by kernel_rfl
theorem h135 : Try.prog.stoodInHeld 135 = false := by kernel_rfl
theorem z135 : zT Try.prog 135 = some (.agg [.bool false, .bool false, .int .i64 0]) := by kernel_rfl
theorem g136 : Try.prog.eqGuardType Try.prog.depth 136 = false := by kernel_rfl
theorem g137 : Try.prog.eqGuardType Try.prog.depth 137 = false := by kernel_rfl
theorem g138 : Try.prog.eqGuardType Try.prog.depth 138 = false := by kernel_rfl
theorem s139 : szT Try.prog 139 = some 1 := by kernel_rfl
theorem b139 : byT Try.prog 139 = some 8 := by kernel_rfl
theorem a139 : aggT Try.prog 139 = some false := by kernel_rfl
theorem z139 : zT Try.prog 139 = some (.int .u64 0) := by kernel_rfl
theorem g140 : Try.prog.eqGuardType Try.prog.depth 140 = false := by kernel_rfl
theorem s140 : szT Try.prog 140 = some 1 := by kernel_rfl
theorem b140 : byT Try.prog 140 = some 8 := by kernel_rfl
theorem a140 : aggT Try.prog 140 = some false := by kernel_rfl
theorem z140 : zT Try.prog 140 = some (.nilp) := by kernel_rfl
theorem g141 : Try.prog.eqGuardType Try.prog.depth 141 = false := by kernel_rfl
theorem g143 : Try.prog.eqGuardType Try.prog.depth 143 = false := by kernel_rfl
theorem g144 : Try.prog.eqGuardType Try.prog.depth 144 = false := by kernel_rfl
theorem g146 : Try.prog.eqGuardType Try.prog.depth 146 = false := by kernel_rfl
theorem g147 : Try.prog.eqGuardType Try.prog.depth 147 = false := by kernel_rfl
theorem g148 : Try.prog.eqGuardType Try.prog.depth 148 = false := by kernel_rfl
theorem g149 : Try.prog.eqGuardType Try.prog.depth 149 = false := by kernel_rfl
theorem s149 : szT Try.prog 149 = some 1 := by kernel_rfl
theorem b149 : byT Try.prog 149 = some 8 := by kernel_rfl
theorem a149 : aggT Try.prog 149 = some false := by kernel_rfl
theorem z149 : zT Try.prog 149 = some (.nilp) := by kernel_rfl
theorem g150 : Try.prog.eqGuardType Try.prog.depth 150 = false := by kernel_rfl
theorem s151 : szT Try.prog 151 = some 64 := by kernel_rfl
theorem b151 : byT Try.prog 151 = some 64 := by kernel_rfl
theorem a151 : aggT Try.prog 151 = some true := by kernel_rfl
theorem g151 : Try.prog.eqGuardType Try.prog.depth 151 = false := by kernel_rfl
theorem h151 : Try.prog.stoodInHeld 151 = false := by kernel_rfl
theorem z151 : zT Try.prog 151 = some (.agg [.int .u8 0, .int .u8 0, .int .u8 0, .int .u8 0, .int .u8 0, .int .u8 0, .int .u8 0, .int .u8 0, .int .u8 0, .int .u8 0, .int .u8 0, .int .u8 0, .int .u8 0, .int .u8 0, .int .u8 0, .int .u8 0, .int .u8 0, .int .u8 0, .int .u8 0, .int .u8 0, .int .u8 0, .int .u8 0, .int .u8 0, .int .u8 0, .int .u8 0, .int .u8 0, .int .u8 0, .int .u8 0, .int .u8 0, .int .u8 0, .int .u8 0, .int .u8 0, .int .u8 0, .int .u8 0, .int .u8 0, .int .u8 0, .int .u8 0, .int .u8 0, .int .u8 0, .int .u8 0, .int .u8 0, .int .u8 0, .int .u8 0, .int .u8 0, .int .u8 0, .int .u8 0, .int .u8 0, .int .u8 0, .int .u8 0, .int .u8 0, .int .u8 0, .int .u8 0, .int .u8 0, .int .u8 0, .int .u8 0, .int .u8 0, .int .u8 0, .int .u8 0, .int .u8 0, .int .u8 0, .int .u8 0, .int .u8 0, .int .u8 0, .int .u8 0]) := by kernel_rfl
theorem s152 : szT Try.prog 152 = some 1 := by kernel_rfl
theorem b152 : byT Try.prog 152 = some 4 := by kernel_rfl
theorem a152 : aggT Try.prog 152 = some false := by kernel_rfl
theorem z152 : zT Try.prog 152 = some (.int .u32 0) := by kernel_rfl
theorem g154 : Try.prog.eqGuardType Try.prog.depth 154 = false := by kernel_rfl
theorem g156 : Try.prog.eqGuardType Try.prog.depth 156 = false := by kernel_rfl
theorem g157 : Try.prog.eqGuardType Try.prog.depth 157 = false := by kernel_rfl
theorem s158 : szT Try.prog 158 = some 4 := by kernel_rfl
theorem b158 : byT Try.prog 158 = some 40 := by kernel_rfl
theorem a158 : aggT Try.prog 158 = some true := by kernel_rfl
theorem z158 : zT Try.prog 158 = some (.agg [.nilp, .nilp, .nilp, .str []]) := by kernel_rfl
theorem s159 : szT Try.prog 159 = some 4 := by kernel_rfl
theorem b159 : byT Try.prog 159 = some 40 := by kernel_rfl
theorem a159 : aggT Try.prog 159 = some true := by kernel_rfl
theorem z159 : zT Try.prog 159 = some (.agg [.nilp, .nilp, .nilp, .str []]) := by kernel_rfl
theorem s160 : szT Try.prog 160 = some 0 := by kernel_rfl
theorem b160 : byT Try.prog 160 = some 0 := by kernel_rfl
theorem a160 : aggT Try.prog 160 = some true := by kernel_rfl
theorem z160 : zT Try.prog 160 = some (.agg []) := by kernel_rfl
theorem s161 : szT Try.prog 161 = some 0 := by kernel_rfl
theorem b161 : byT Try.prog 161 = some 0 := by kernel_rfl
theorem a161 : aggT Try.prog 161 = some true := by kernel_rfl
theorem z161 : zT Try.prog 161 = some (.agg []) := by kernel_rfl
theorem s162 : szT Try.prog 162 = some 0 := by kernel_rfl
theorem b162 : byT Try.prog 162 = some 0 := by kernel_rfl
theorem a162 : aggT Try.prog 162 = some true := by kernel_rfl
theorem z162 : zT Try.prog 162 = some (.agg []) := by kernel_rfl
theorem s163 : szT Try.prog 163 = some 1 := by kernel_rfl
theorem b163 : byT Try.prog 163 = some 1 := by kernel_rfl
theorem a163 : aggT Try.prog 163 = some false := by kernel_rfl
theorem z163 : zT Try.prog 163 = some (.int .u8 0) := by kernel_rfl
theorem s164 : szT Try.prog 164 = some 1 := by kernel_rfl
theorem b164 : byT Try.prog 164 = some 1 := by kernel_rfl
theorem a164 : aggT Try.prog 164 = some false := by kernel_rfl
theorem z164 : zT Try.prog 164 = some (.int .u8 0) := by kernel_rfl
theorem g165 : Try.prog.eqGuardType Try.prog.depth 165 = false := by kernel_rfl
theorem s166 : szT Try.prog 166 = some 1 := by kernel_rfl
theorem b166 : byT Try.prog 166 = some 4 := by kernel_rfl
theorem a166 : aggT Try.prog 166 = some false := by kernel_rfl
theorem z166 : zT Try.prog 166 = some (.int .i32 0) := by kernel_rfl
theorem s167 : szT Try.prog 167 = some 1 := by kernel_rfl
theorem b167 : byT Try.prog 167 = some 4 := by kernel_rfl
theorem a167 : aggT Try.prog 167 = some false := by kernel_rfl
theorem z167 : zT Try.prog 167 = some (.int .i32 0) := by kernel_rfl
theorem s168 : szT Try.prog 168 = some 11 := by kernel_rfl
theorem b168 : byT Try.prog 168 = some 48 := by kernel_rfl
theorem a168 : aggT Try.prog 168 = some true := by kernel_rfl
theorem z168 : zT Try.prog 168 = some (.agg [.int .u64 0, .int .u64 0, .int .u32 0, .int .u8 0, .int .u8 0, .int .u8 0, .int .u8 0, .nilf, .nilp, .int .i32 0, .int .i32 0]) := by kernel_rfl
theorem s169 : szT Try.prog 169 = some 11 := by kernel_rfl
theorem b169 : byT Try.prog 169 = some 48 := by kernel_rfl
theorem a169 : aggT Try.prog 169 = some true := by kernel_rfl
theorem z169 : zT Try.prog 169 = some (.agg [.int .u64 0, .int .u64 0, .int .u32 0, .int .u8 0, .int .u8 0, .int .u8 0, .int .u8 0, .nilf, .nilp, .int .i32 0, .int .i32 0]) := by kernel_rfl
attribute [go_sem] g1 s2 b2 a2 z2 s3 b3 a3 z3 s4 b4 a4 z4 s5 b5 a5 z5 s6 b6 a6 z6 s7 b7 a7 g7 h7 z7 s8 b8 a8 g8 h8 z8 s9 b9 a9 z9 s10 b10 a10 z10 s11 b11 a11 z11 s12 b12 a12 z12 s13 b13 a13 z13 s14 b14 a14 z14 g15 s15 b15 a15 z15 g16 s16 b16 a16 z16 g17 s17 b17 a17 z17 s18 b18 a18 z18 s19 b19 a19 z19 s20 b20 a20 z20 s21 b21 a21 z21 g22 s22 b22 a22 z22 g23 g24 g25 g26 s26 b26 a26 z26 g27 g28 s28 b28 a28 z28 g29 g30 s31 b31 a31 g31 h31 z31 s32 b32 a32 g32 h32 z32 s33 b33 a33 g33 h33 z33 g35 g36 g37 g38 g39 s39 b39 a39 z39 s40 b40 a40 z40 s41 b41 a41 z41 g42 g43 g44 s45 b45 a45 g45 h45 z45 s46 b46 a46 g46 h46 z46 s47 b47 a47 z47 g49 g50 g51 g52 s52 b52 a52 z52 g53 g54 g55 s55 b55 a55 z55 g56 g57 s58 b58 a58 g58 h58 z58 g59 g60 s60 b60 a60 z60 g61 s62 b62 a62 g62 h62 z62 s63 b63 a63 g63 h63 z63 g64 g65 s65 b65 a65 z65 g66 g67 g68 g69 g70 g71 g72 g74 g75 g76 g77 g78 g79 g81 g82 s83 b83 a83 g83 h83 z83 s84 b84 a84 g84 h84 z84 g85 g86 g87 g88 g89 g91 g92 g94 g95 s95 b95 a95 z95 g96 s96 b96 a96 z96 s97 b97 a97 z97 s98 b98 a98 z98 g99 s100 b100 a100 z100 s101 b101 a101 z101 g103 g104 g105 s105 b105 a105 g106 g107 g108 g109 g110 g111 g112 g113 g114 s115 b115 a115 g115 h115 z115 s116 b116 a116 g116 h116 z116 g118 g119 g120 g121 g122 g123 s124 b124 a124 z124 g125 s125 b125 a125 z125 g126 s127 b127 a127 g127 h127 z127 g128 g129 g130 g131 g132 g133 s134 b134 a134 g134 h134 z134 s135 b135 a135 g135 h135 z135 g136 g137 g138 s139 b139 a139 z139 g140 s140 b140 a140 z140 g141 g143 g144 g146 g147 g148 g149 s149 b149 a149 z149 g150 s151 b151 a151 g151 h151 z151 s152 b152 a152 z152 g154 g156 g157 s158 b158 a158 z158 s159 b159 a159 z159 s160 b160 a160 z160 s161 b161 a161 z161 s162 b162 a162 z162 s163 b163 a163 z163 s164 b164 a164 z164 g165 s166 b166 a166 z166 s167 b167 a167 z167 s168 b168 a168 z168 s169 b169 a169 z169 Try.underlying1 Try.underlying2 Try.underlying3 Try.underlying4 Try.underlying5 Try.underlying6 Try.underlying7 Try.underlying8 Try.underlying9 Try.underlying10 Try.underlying11 Try.underlying12 Try.underlying13 Try.underlying14 Try.underlying15 Try.underlying16 Try.underlying17 Try.underlying18 Try.underlying19 Try.underlying20 Try.underlying21 Try.underlying22 Try.underlying23 Try.underlying24 Try.underlying25 Try.underlying26 Try.underlying27 Try.underlying28 Try.underlying29 Try.underlying30 Try.underlying31 Try.underlying32 Try.underlying33 Try.underlying35 Try.underlying36 Try.underlying37 Try.underlying38 Try.underlying39 Try.underlying40 Try.underlying41 Try.underlying42 Try.underlying43 Try.underlying44 Try.underlying45 Try.underlying46 Try.underlying47 Try.underlying49 Try.underlying50 Try.underlying51 Try.underlying52 Try.underlying53 Try.underlying54 Try.underlying55 Try.underlying56 Try.underlying57 Try.underlying58 Try.underlying59 Try.underlying60 Try.underlying61 Try.underlying62 Try.underlying63 Try.underlying64 Try.underlying65 Try.underlying66 Try.underlying67 Try.underlying68 Try.underlying69 Try.underlying70 Try.underlying71 Try.underlying72 Try.underlying74 Try.underlying75 Try.underlying76 Try.underlying77 Try.underlying78 Try.underlying79 Try.underlying81 Try.underlying82 Try.underlying83 Try.underlying84 Try.underlying85 Try.underlying86 Try.underlying87 Try.underlying88 Try.underlying89 Try.underlying91 Try.underlying92 Try.underlying94 Try.underlying95 Try.underlying96 Try.underlying97 Try.underlying98 Try.underlying99 Try.underlying100 Try.underlying101 Try.underlying103 Try.underlying104 Try.underlying105 Try.underlying106 Try.underlying107 Try.underlying108 Try.underlying109 Try.underlying110 Try.underlying111 Try.underlying112 Try.underlying113 Try.underlying114 Try.underlying115 Try.underlying116 Try.underlying118 Try.underlying119 Try.underlying120 Try.underlying121 Try.underlying122 Try.underlying123 Try.underlying124 Try.underlying125 Try.underlying126 Try.underlying127 Try.underlying128 Try.underlying129 Try.underlying130 Try.underlying131 Try.underlying132 Try.underlying133 Try.underlying134 Try.underlying135 Try.underlying136 Try.underlying137 Try.underlying138 Try.underlying139 Try.underlying140 Try.underlying141 Try.underlying143 Try.underlying144 Try.underlying146 Try.underlying147 Try.underlying148 Try.underlying149 Try.underlying150 Try.underlying151 Try.underlying152 Try.underlying154 Try.underlying156 Try.underlying157 Try.underlying158 Try.underlying159 Try.underlying160 Try.underlying161 Try.underlying162 Try.underlying163 Try.underlying164 Try.underlying165 Try.underlying166 Try.underlying167 Try.underlying168 Try.underlying169
end Go.Proofs.Try.Ty
