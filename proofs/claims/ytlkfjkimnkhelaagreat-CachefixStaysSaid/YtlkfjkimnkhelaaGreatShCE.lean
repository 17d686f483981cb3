import Derived.Test.YtlkfjkimnkhelaaGreatShCD
import Derived.Test.YtlkfjkimnkhelaaGreatProg
import Derived.KernelRfl
import Derived.Lib.Bytealg
section
set_option linter.unusedVariables false
namespace Go.Proofs.Tryz.Ty
open Go Go.Abs Go.Proofs
theorem mixed : Tryz.prog.follows .mixedOrders = true := by kernel_rfl
theorem g1 : Tryz.prog.eqGuardType Tryz.prog.depth 1 = false := by kernel_rfl
theorem s2 : szT Tryz.prog 2 = some 1 := by kernel_rfl
theorem b2 : byT Tryz.prog 2 = some 8 := by kernel_rfl
theorem a2 : aggT Tryz.prog 2 = some false := by kernel_rfl
theorem z2 : zT Tryz.prog 2 = some (.int .i64 0) := by kernel_rfl
theorem s3 : szT Tryz.prog 3 = some 1 := by kernel_rfl
theorem b3 : byT Tryz.prog 3 = some 8 := by kernel_rfl
theorem a3 : aggT Tryz.prog 3 = some false := by kernel_rfl
theorem z3 : zT Tryz.prog 3 = some (.int .i64 0) := by kernel_rfl
theorem s4 : szT Tryz.prog 4 = some 1 := by kernel_rfl
theorem b4 : byT Tryz.prog 4 = some 1 := by kernel_rfl
theorem a4 : aggT Tryz.prog 4 = some false := by kernel_rfl
theorem z4 : zT Tryz.prog 4 = some (.bool false) := by kernel_rfl
theorem s5 : szT Tryz.prog 5 = some 1 := by kernel_rfl
theorem b5 : byT Tryz.prog 5 = some 1 := by kernel_rfl
theorem a5 : aggT Tryz.prog 5 = some false := by kernel_rfl
theorem z5 : zT Tryz.prog 5 = some (.int .u8 0) := by kernel_rfl
theorem s6 : szT Tryz.prog 6 = some 1 := by kernel_rfl
theorem b6 : byT Tryz.prog 6 = some 1 := by kernel_rfl
theorem a6 : aggT Tryz.prog 6 = some false := by kernel_rfl
theorem z6 : zT Tryz.prog 6 = some (.int .u8 0) := by kernel_rfl
theorem s7 : szT Tryz.prog 7 = some 4 := by kernel_rfl
theorem b7 : byT Tryz.prog 7 = some 24 := by kernel_rfl
theorem a7 : aggT Tryz.prog 7 = some true := by kernel_rfl
theorem g7 : Tryz.prog.eqGuardType Tryz.prog.depth 7 = false := by kernel_rfl
theorem h7 : Tryz.prog.stoodInHeld 7 = false := by kernel_rfl
theorem z7 : zT Tryz.prog 7 = some (.agg [.int .i64 0, .int .i64 0, .bool false, .int .u8 0]) := by kernel_rfl
theorem s8 : szT Tryz.prog 8 = some 4 := by kernel_rfl
theorem b8 : byT Tryz.prog 8 = some 24 := by kernel_rfl
theorem a8 : aggT Tryz.prog 8 = some true := by kernel_rfl
theorem g8 : Tryz.prog.eqGuardType Tryz.prog.depth 8 = false := by kernel_rfl
theorem h8 : Tryz.prog.stoodInHeld 8 = false := by kernel_rfl
theorem z8 : zT Tryz.prog 8 = some (.agg [.int .i64 0, .int .i64 0, .bool false, .int .u8 0]) := by kernel_rfl
theorem s9 : szT Tryz.prog 9 = some 1 := by kernel_rfl
theorem b9 : byT Tryz.prog 9 = some 16 := by kernel_rfl
theorem a9 : aggT Tryz.prog 9 = some false := by kernel_rfl
theorem z9 : zT Tryz.prog 9 = some (.str []) := by kernel_rfl
theorem s10 : szT Tryz.prog 10 = some 1 := by kernel_rfl
theorem b10 : byT Tryz.prog 10 = some 16 := by kernel_rfl
theorem a10 : aggT Tryz.prog 10 = some false := by kernel_rfl
theorem z10 : zT Tryz.prog 10 = some (.str []) := by kernel_rfl
theorem s11 : szT Tryz.prog 11 = some 1 := by kernel_rfl
theorem b11 : byT Tryz.prog 11 = some 16 := by kernel_rfl
theorem a11 : aggT Tryz.prog 11 = some false := by kernel_rfl
theorem z11 : zT Tryz.prog 11 = some (.str []) := by kernel_rfl
theorem s12 : szT Tryz.prog 12 = some 1 := by kernel_rfl
theorem b12 : byT Tryz.prog 12 = some 8 := by kernel_rfl
theorem a12 : aggT Tryz.prog 12 = some false := by kernel_rfl
theorem z12 : zT Tryz.prog 12 = some (.int .u64 0) := by kernel_rfl
theorem s13 : szT Tryz.prog 13 = some 2 := by kernel_rfl
theorem b13 : byT Tryz.prog 13 = some 24 := by kernel_rfl
theorem a13 : aggT Tryz.prog 13 = some true := by kernel_rfl
theorem z13 : zT Tryz.prog 13 = some (.agg [.str [], .int .u64 0]) := by kernel_rfl
theorem s14 : szT Tryz.prog 14 = some 2 := by kernel_rfl
theorem b14 : byT Tryz.prog 14 = some 24 := by kernel_rfl
theorem a14 : aggT Tryz.prog 14 = some true := by kernel_rfl
theorem z14 : zT Tryz.prog 14 = some (.agg [.str [], .int .u64 0]) := by kernel_rfl
theorem g15 : Tryz.prog.eqGuardType Tryz.prog.depth 15 = false := by kernel_rfl
theorem s15 : szT Tryz.prog 15 = some 1 := by kernel_rfl
theorem b15 : byT Tryz.prog 15 = some 8 := by kernel_rfl
theorem a15 : aggT Tryz.prog 15 = some false := by kernel_rfl
theorem z15 : zT Tryz.prog 15 = some (.nilp) := by kernel_rfl
theorem g16 : Tryz.prog.eqGuardType Tryz.prog.depth 16 = false := by kernel_rfl
theorem s16 : szT Tryz.prog 16 = some 1 := by kernel_rfl
theorem b16 : byT Tryz.prog 16 = some 8 := by kernel_rfl
theorem a16 : aggT Tryz.prog 16 = some false := by kernel_rfl
theorem z16 : zT Tryz.prog 16 = some (.nilp) := by kernel_rfl
theorem g17 : Tryz.prog.eqGuardType Tryz.prog.depth 17 = false := by kernel_rfl
theorem s17 : szT Tryz.prog 17 = some 1 := by kernel_rfl
theorem b17 : byT Tryz.prog 17 = some 8 := by kernel_rfl
theorem a17 : aggT Tryz.prog 17 = some false := by kernel_rfl
theorem z17 : zT Tryz.prog 17 = some (.nilp) := by kernel_rfl
theorem s18 : szT Tryz.prog 18 = some 1 := by kernel_rfl
theorem b18 : byT Tryz.prog 18 = some 8 := by kernel_rfl
theorem a18 : aggT Tryz.prog 18 = some true := by kernel_rfl
theorem z18 : zT Tryz.prog 18 = some (.agg [.nilp]) := by kernel_rfl
theorem s19 : szT Tryz.prog 19 = some 1 := by kernel_rfl
theorem b19 : byT Tryz.prog 19 = some 8 := by kernel_rfl
theorem a19 : aggT Tryz.prog 19 = some true := by kernel_rfl
theorem z19 : zT Tryz.prog 19 = some (.agg [.nilp]) := by kernel_rfl
theorem s20 : szT Tryz.prog 20 = some 1 := by kernel_rfl
theorem b20 : byT Tryz.prog 20 = some 16 := by kernel_rfl
theorem a20 : aggT Tryz.prog 20 = some false := by kernel_rfl
theorem z20 : zT Tryz.prog 20 = some (.nili) := by kernel_rfl
theorem s21 : szT Tryz.prog 21 = some 1 := by kernel_rfl
theorem b21 : byT Tryz.prog 21 = some 4 := by kernel_rfl
theorem a21 : aggT Tryz.prog 21 = some false := by kernel_rfl
theorem z21 : zT Tryz.prog 21 = some (.int .i32 0) := by kernel_rfl
theorem g22 : Tryz.prog.eqGuardType Tryz.prog.depth 22 = false := by kernel_rfl
theorem s22 : szT Tryz.prog 22 = some 1 := by kernel_rfl
theorem b22 : byT Tryz.prog 22 = some 24 := by kernel_rfl
theorem a22 : aggT Tryz.prog 22 = some false := by kernel_rfl
theorem z22 : zT Tryz.prog 22 = some (.nils) := by kernel_rfl
theorem g23 : Tryz.prog.eqGuardType Tryz.prog.depth 23 = false := by kernel_rfl
theorem g24 : Tryz.prog.eqGuardType Tryz.prog.depth 24 = false := by kernel_rfl
theorem g25 : Tryz.prog.eqGuardType Tryz.prog.depth 25 = false := by kernel_rfl
theorem g26 : Tryz.prog.eqGuardType Tryz.prog.depth 26 = false := by kernel_rfl
theorem s26 : szT Tryz.prog 26 = some 1 := by kernel_rfl
theorem b26 : byT Tryz.prog 26 = some 24 := by kernel_rfl
theorem a26 : aggT Tryz.prog 26 = some false := by kernel_rfl
theorem z26 : zT Tryz.prog 26 = some (.nils) := by kernel_rfl
theorem g27 : Tryz.prog.eqGuardType Tryz.prog.depth 27 = false := by kernel_rfl
theorem g28 : Tryz.prog.eqGuardType Tryz.prog.depth 28 = false := by kernel_rfl
theorem g29 : Tryz.prog.eqGuardType Tryz.prog.depth 29 = false := by kernel_rfl
theorem g30 : Tryz.prog.eqGuardType Tryz.prog.depth 30 = false := by kernel_rfl
theorem g31 : Tryz.prog.eqGuardType Tryz.prog.depth 31 = false := by kernel_rfl
theorem s32 : szT Tryz.prog 32 = some 3 := by kernel_rfl
theorem b32 : byT Tryz.prog 32 = some 48 := by kernel_rfl
theorem a32 : aggT Tryz.prog 32 = some true := by kernel_rfl
theorem g32 : Tryz.prog.eqGuardType Tryz.prog.depth 32 = false := by kernel_rfl
theorem h32 : Tryz.prog.stoodInHeld 32 = false := by kernel_rfl
theorem z32 : zT Tryz.prog 32 = some (.agg [.str [], .str [], .str []]) := by kernel_rfl
theorem s33 : szT Tryz.prog 33 = some 3 := by kernel_rfl
theorem b33 : byT Tryz.prog 33 = some 48 := by kernel_rfl
theorem a33 : aggT Tryz.prog 33 = some true := by kernel_rfl
theorem g33 : Tryz.prog.eqGuardType Tryz.prog.depth 33 = false := by kernel_rfl
theorem h33 : Tryz.prog.stoodInHeld 33 = false := by kernel_rfl
theorem z33 : zT Tryz.prog 33 = some (.agg [.str [], .str [], .str []]) := by kernel_rfl
theorem s34 : szT Tryz.prog 34 = some 1 := by kernel_rfl
theorem b34 : byT Tryz.prog 34 = some 8 := by kernel_rfl
theorem a34 : aggT Tryz.prog 34 = some false := by kernel_rfl
theorem z34 : zT Tryz.prog 34 = some (.int .i64 0) := by kernel_rfl
theorem g36 : Tryz.prog.eqGuardType Tryz.prog.depth 36 = false := by kernel_rfl
theorem g37 : Tryz.prog.eqGuardType Tryz.prog.depth 37 = false := by kernel_rfl
theorem g39 : Tryz.prog.eqGuardType Tryz.prog.depth 39 = false := by kernel_rfl
theorem g40 : Tryz.prog.eqGuardType Tryz.prog.depth 40 = false := by kernel_rfl
theorem s40 : szT Tryz.prog 40 = some 1 := by kernel_rfl
theorem b40 : byT Tryz.prog 40 = some 24 := by kernel_rfl
theorem a40 : aggT Tryz.prog 40 = some false := by kernel_rfl
theorem z40 : zT Tryz.prog 40 = some (.nils) := by kernel_rfl
theorem g42 : Tryz.prog.eqGuardType Tryz.prog.depth 42 = false := by kernel_rfl
theorem g43 : Tryz.prog.eqGuardType Tryz.prog.depth 43 = false := by kernel_rfl
theorem g44 : Tryz.prog.eqGuardType Tryz.prog.depth 44 = false := by kernel_rfl
theorem g45 : Tryz.prog.eqGuardType Tryz.prog.depth 45 = false := by kernel_rfl
theorem s46 : szT Tryz.prog 46 = some 3 := by kernel_rfl
theorem b46 : byT Tryz.prog 46 = some 24 := by kernel_rfl
theorem a46 : aggT Tryz.prog 46 = some true := by kernel_rfl
theorem g46 : Tryz.prog.eqGuardType Tryz.prog.depth 46 = false := by kernel_rfl
theorem h46 : Tryz.prog.stoodInHeld 46 = false := by kernel_rfl
theorem z46 : zT Tryz.prog 46 = some (.agg [.int .i64 0, .int .i64 0, .int .i64 0]) := by kernel_rfl
theorem s47 : szT Tryz.prog 47 = some 3 := by kernel_rfl
theorem b47 : byT Tryz.prog 47 = some 24 := by kernel_rfl
theorem a47 : aggT Tryz.prog 47 = some true := by kernel_rfl
theorem g47 : Tryz.prog.eqGuardType Tryz.prog.depth 47 = false := by kernel_rfl
theorem h47 : Tryz.prog.stoodInHeld 47 = false := by kernel_rfl
theorem z47 : zT Tryz.prog 47 = some (.agg [.int .i64 0, .int .i64 0, .int .i64 0]) := by kernel_rfl
theorem g48 : Tryz.prog.eqGuardType Tryz.prog.depth 48 = false := by kernel_rfl
theorem g49 : Tryz.prog.eqGuardType Tryz.prog.depth 49 = false := by kernel_rfl
theorem g50 : Tryz.prog.eqGuardType Tryz.prog.depth 50 = false := by kernel_rfl
theorem s51 : szT Tryz.prog 51 = some 2 := by kernel_rfl
theorem b51 : byT Tryz.prog 51 = some 32 := by kernel_rfl
theorem a51 : aggT Tryz.prog 51 = some true := by kernel_rfl
theorem g51 : Tryz.prog.eqGuardType Tryz.prog.depth 51 = false := by kernel_rfl
theorem h51 : Tryz.prog.stoodInHeld 51 = false := by kernel_rfl
theorem z51 : zT Tryz.prog 51 = some (.agg [.str [], .str []]) := by kernel_rfl
theorem s52 : szT Tryz.prog 52 = some 2 := by kernel_rfl
theorem b52 : byT Tryz.prog 52 = some 32 := by kernel_rfl
theorem a52 : aggT Tryz.prog 52 = some true := by kernel_rfl
theorem g52 : Tryz.prog.eqGuardType Tryz.prog.depth 52 = false := by kernel_rfl
theorem h52 : Tryz.prog.stoodInHeld 52 = false := by kernel_rfl
theorem z52 : zT Tryz.prog 52 = some (.agg [.str [], .str []]) := by kernel_rfl
theorem g53 : Tryz.prog.eqGuardType Tryz.prog.depth 53 = false := by kernel_rfl
theorem g54 : Tryz.prog.eqGuardType Tryz.prog.depth 54 = false := by kernel_rfl
theorem g55 : Tryz.prog.eqGuardType Tryz.prog.depth 55 = false := by kernel_rfl
theorem g56 : Tryz.prog.eqGuardType Tryz.prog.depth 56 = false := by kernel_rfl
theorem g57 : Tryz.prog.eqGuardType Tryz.prog.depth 57 = false := by kernel_rfl
theorem g58 : Tryz.prog.eqGuardType Tryz.prog.depth 58 = false := by kernel_rfl
theorem s58 : szT Tryz.prog 58 = some 1 := by kernel_rfl
theorem b58 : byT Tryz.prog 58 = some 8 := by kernel_rfl
theorem a58 : aggT Tryz.prog 58 = some false := by kernel_rfl
theorem z58 : zT Tryz.prog 58 = some (.nilp) := by kernel_rfl
theorem g59 : Tryz.prog.eqGuardType Tryz.prog.depth 59 = false := by kernel_rfl
theorem g60 : Tryz.prog.eqGuardType Tryz.prog.depth 60 = false := by kernel_rfl
theorem g61 : Tryz.prog.eqGuardType Tryz.prog.depth 61 = false := by kernel_rfl
theorem g62 : Tryz.prog.eqGuardType Tryz.prog.depth 62 = false := by kernel_rfl
theorem g63 : Tryz.prog.eqGuardType Tryz.prog.depth 63 = false := by kernel_rfl
theorem g64 : Tryz.prog.eqGuardType Tryz.prog.depth 64 = false := by kernel_rfl
theorem g65 : Tryz.prog.eqGuardType Tryz.prog.depth 65 = false := by kernel_rfl
theorem g66 : Tryz.prog.eqGuardType Tryz.prog.depth 66 = false := by kernel_rfl
theorem g67 : Tryz.prog.eqGuardType Tryz.prog.depth 67 = false := by kernel_rfl
theorem g68 : Tryz.prog.eqGuardType Tryz.prog.depth 68 = false := by kernel_rfl
theorem s68 : szT Tryz.prog 68 = some 1 := by kernel_rfl
theorem b68 : byT Tryz.prog 68 = some 24 := by kernel_rfl
theorem a68 : aggT Tryz.prog 68 = some false := by kernel_rfl
theorem z68 : zT Tryz.prog 68 = some (.nils) := by kernel_rfl
theorem g69 : Tryz.prog.eqGuardType Tryz.prog.depth 69 = false := by kernel_rfl
theorem g70 : Tryz.prog.eqGuardType Tryz.prog.depth 70 = false := by kernel_rfl
theorem g71 : Tryz.prog.eqGuardType Tryz.prog.depth 71 = false := by kernel_rfl
theorem g72 : Tryz.prog.eqGuardType Tryz.prog.depth 72 = false := by kernel_rfl
theorem g73 : Tryz.prog.eqGuardType Tryz.prog.depth 73 = false := by kernel_rfl
theorem g74 : Tryz.prog.eqGuardType Tryz.prog.depth 74 = false := by kernel_rfl
theorem g75 : Tryz.prog.eqGuardType Tryz.prog.depth 75 = false := by kernel_rfl
theorem g77 : Tryz.prog.eqGuardType Tryz.prog.depth 77 = false := by kernel_rfl
theorem g78 : Tryz.prog.eqGuardType Tryz.prog.depth 78 = false := by kernel_rfl
theorem g79 : Tryz.prog.eqGuardType Tryz.prog.depth 79 = false := by kernel_rfl
theorem s80 : szT Tryz.prog 80 = some 2 := by kernel_rfl
theorem b80 : byT Tryz.prog 80 = some 24 := by kernel_rfl
theorem a80 : aggT Tryz.prog 80 = some true := by kernel_rfl
theorem g80 : Tryz.prog.eqGuardType Tryz.prog.depth 80 = false := by kernel_rfl
theorem h80 : Tryz.prog.stoodInHeld 80 = false := by kernel_rfl
theorem z80 : zT Tryz.prog 80 = some (.agg [.str [], .int .i64 0]) := by kernel_rfl
theorem s81 : szT Tryz.prog 81 = some 2 := by kernel_rfl
theorem b81 : byT Tryz.prog 81 = some 24 := by kernel_rfl
theorem a81 : aggT Tryz.prog 81 = some true := by kernel_rfl
theorem g81 : Tryz.prog.eqGuardType Tryz.prog.depth 81 = false := by kernel_rfl
theorem h81 : Tryz.prog.stoodInHeld 81 = false := by kernel_rfl
theorem z81 : zT Tryz.prog 81 = some (.agg [.str [], .int .i64 0]) := by kernel_rfl
theorem g82 : Tryz.prog.eqGuardType Tryz.prog.depth 82 = false := by kernel_rfl
theorem g83 : Tryz.prog.eqGuardType Tryz.prog.depth 83 = false := by kernel_rfl
theorem g84 : Tryz.prog.eqGuardType Tryz.prog.depth 84 = false := by kernel_rfl
theorem g85 : Tryz.prog.eqGuardType Tryz.prog.depth 85 = false := by kernel_rfl
theorem g87 : Tryz.prog.eqGuardType Tryz.prog.depth 87 = false := by kernel_rfl
theorem g88 : Tryz.prog.eqGuardType Tryz.prog.depth 88 = false := by kernel_rfl
theorem g89 : Tryz.prog.eqGuardType Tryz.prog.depth 89 = false := by kernel_rfl
theorem s89 : szT Tryz.prog 89 = some 1 := by kernel_rfl
theorem b89 : byT Tryz.prog 89 = some 8 := by kernel_rfl
theorem a89 : aggT Tryz.prog 89 = some false := by kernel_rfl
theorem z89 : zT Tryz.prog 89 = some (.nilp) := by kernel_rfl
theorem s90 : szT Tryz.prog 90 = some 2 := by kernel_rfl
theorem b90 : byT Tryz.prog 90 = some 32 := by kernel_rfl
theorem a90 : aggT Tryz.prog 90 = some true := by kernel_rfl
theorem z90 : zT Tryz.prog 90 = some (.agg [.nilp, .nils]) := by kernel_rfl
theorem s91 : szT Tryz.prog 91 = some 2 := by kernel_rfl
theorem b91 : byT Tryz.prog 91 = some 32 := by kernel_rfl
theorem a91 : aggT Tryz.prog 91 = some true := by kernel_rfl
theorem z91 : zT Tryz.prog 91 = some (.agg [.nilp, .nils]) := by kernel_rfl
theorem g92 : Tryz.prog.eqGuardType Tryz.prog.depth 92 = false := by kernel_rfl
theorem s93 : szT Tryz.prog 93 = some 1 := by kernel_rfl
theorem b93 : byT Tryz.prog 93 = some 16 := by kernel_rfl
theorem a93 : aggT Tryz.prog 93 = some false := by kernel_rfl
theorem z93 : zT Tryz.prog 93 = some (.nili) := by kernel_rfl
theorem s94 : szT Tryz.prog 94 = some 1 := by kernel_rfl
theorem b94 : byT Tryz.prog 94 = some 16 := by kernel_rfl
theorem a94 : aggT Tryz.prog 94 = some false := by kernel_rfl
theorem z94 : zT Tryz.prog 94 = some (.nili) := by kernel_rfl
theorem g96 : Tryz.prog.eqGuardType Tryz.prog.depth 96 = false := by kernel_rfl
theorem g97 : Tryz.prog.eqGuardType Tryz.prog.depth 97 = false := by kernel_rfl
theorem g98 : Tryz.prog.eqGuardType Tryz.prog.depth 98 = false := by kernel_rfl
theorem s98 : szT Tryz.prog 98 = some 1 := by kernel_rfl
theorem b98 : byT Tryz.prog 98 = some 24 := by kernel_rfl
theorem a98 : aggT Tryz.prog 98 = some false := by kernel_rfl
theorem z98 : zT Tryz.prog 98 = some (.nils) := by kernel_rfl
theorem g99 : Tryz.prog.eqGuardType Tryz.prog.depth 99 = false := by kernel_rfl
theorem s100 : szT Tryz.prog 100 = some 3 := by kernel_rfl
theorem b100 : byT Tryz.prog 100 = some 40 := by kernel_rfl
theorem a100 : aggT Tryz.prog 100 = some true := by kernel_rfl
theorem g100 : Tryz.prog.eqGuardType Tryz.prog.depth 100 = false := by kernel_rfl
theorem h100 : Tryz.prog.stoodInHeld 100 = false := by kernel_rfl
theorem z100 : zT Tryz.prog 100 = some (.agg [.str [], .str [], .bool false]) := by kernel_rfl
theorem s101 : szT Tryz.prog 101 = some 3 := by kernel_rfl
theorem b101 : byT Tryz.prog 101 = some 40 := by kernel_rfl
theorem a101 : aggT Tryz.prog 101 = some true := by kernel_rfl
theorem g101 : Tryz.prog.eqGuardType Tryz.prog.depth 101 = false := by kernel_rfl
theorem h101 : Tryz.prog.stoodInHeld 101 = false := by kernel_rfl
theorem z101 : zT Tryz.prog 101 = some (.agg [.str [], .str [], .bool false]) := by kernel_rfl
theorem g103 : Tryz.prog.eqGuardType Tryz.prog.depth 103 = false := by kernel_rfl
theorem g105 : Tryz.prog.eqGuardType Tryz.prog.depth 105 = false := by kernel_rfl
theorem g106 : Tryz.prog.eqGuardType Tryz.prog.depth 106 = false := by kernel_rfl
theorem g107 : Tryz.prog.eqGuardType Tryz.prog.depth 107 = false := by kernel_rfl
theorem g108 : Tryz.prog.eqGuardType Tryz.prog.depth 108 = false := by kernel_rfl
theorem s109 : szT Tryz.prog 109 = some 3 := by kernel_rfl
theorem b109 : byT Tryz.prog 109 = some 16 := by kernel_rfl
theorem a109 : aggT Tryz.prog 109 = some true := by kernel_rfl
theorem g109 : Tryz.prog.eqGuardType Tryz.prog.depth 109 = false := by kernel_rfl
theorem h109 : Tryz.prog.stoodInHeld 109 = false := by kernel_rfl
theorem z109 : zT Tryz.prog 109 = some (.agg [.bool false, .bool false, .int .i64 0]) := by kernel_rfl
theorem s110 : szT Tryz.prog 110 = some 3 := by kernel_rfl
theorem b110 : byT Tryz.prog 110 = some 16 := by kernel_rfl
theorem a110 : aggT Tryz.prog 110 = some true := by kernel_rfl
theorem g110 : Tryz.prog.eqGuardType Tryz.prog.depth 110 = false := by kernel_rfl
theorem h110 : Tryz.prog.stoodInHeld 110 = false := by kernel_rfl
theorem z110 : zT Tryz.prog 110 = some (.agg [.bool false, .bool false, .int .i64 0]) := by kernel_rfl
theorem g111 : Tryz.prog.eqGuardType Tryz.prog.depth 111 = false := by kernel_rfl
theorem g113 : Tryz.prog.eqGuardType Tryz.prog.depth 113 = false := by kernel_rfl
theorem g114 : Tryz.prog.eqGuardType Tryz.prog.depth 114 = false := by kernel_rfl
theorem s115 : szT Tryz.prog 115 = some 256 := by kernel_rfl
theorem b115 : byT Tryz.prog 115 = some 256 := by kernel_rfl
theorem a115 : aggT Tryz.prog 115 = some true := by kernel_rfl
theorem g115 : Tryz.prog.eqGuardType Tryz.prog.depth 115 = false := by kernel_rfl
theorem h115 : Tryz.prog.stoodInHeld 115 = false := by kernel_rfl
theorem z115 : zT Tryz.prog 115 = some (.agg [.bool false, .bool false, .bool false, .bool false, .bool false, .bool false, .bool false, .bool false, .bool false, .bool false, .bool false, .bool false, .bool false, .bool false, .bool false, .bool false, .bool false, .bool false, .bool false, .bool false, .bool false, .bool false, .bool false, .bool false, .bool false, .bool false, .bool false, .bool false, .bool false, .bool false, .bool false, .bool false, .bool false, .bool false, .bool false, .bool false, .bool false, .bool false, .bool false, .bool false, .bool false, .bool false, .bool false, .bool false, .bool false, .bool false, .bool false, .bool false, .bool false, .bool false, .bool false, .bool false, .bool false, .bool false, .bool false, .bool false, .bool false, .bool false, .bool false, .bool false, .bool false, .bool false, .bool false, .bool false, .bool false, .bool false, .bool false, .bool false, .bool false, .bool false, .bool false, .bool false, .bool false, .bool false, .bool false, .bool false, .bool false, .bool false, .bool false, .bool false, .bool false, .bool false, .bool false, .bool false, .bool false, .bool false, .bool false, .bool false, .bool false, .bool false, .bool false, .bool false, .bool false, .bool false, .bool false, .bool false, .bool false, .bool false, .bool false, .bool false, .bool false, .bool false, .bool false, .bool false, .bool false, .bool false, .bool false, .bool false, .bool false, .bool false, .bool false, .bool false, .bool false, .bool false, .bool false, .bool false, .bool false, .bool false, .bool false, .bool false, .bool false, .bool false, .bool false, .bool false, .bool false, .bool false, .bool false, .bool false, .bool false, .bool false, .bool false, .bool false, .bool false, .bool false, .bool false, .bool false, .bool false, .bool false, .bool false, .bool false, .bool false, .bool false, .bool false, .bool false, .bool false, .bool false, .bool false, .bool false, .bool false, .bool false, .bool false, .bool false, .bool false, .bool false, .bool false, .bool false, .bool false, .bool false, .bool false, .bool false, .bool false, .bool false, .bool false, .bool false, .bool false, .bool false, .bool false, .bool false, .bool false, .bool false, .bool false, .bool false, .bool false, .bool false, .bool false, .bool false, .bool false, .bool false, .bool false, .bool false, .bool false, .bool false, .bool false, .bool false, .bool false, .bool false, .bool false, .bool false, .bool false, .bool false, .bool false, .bool false, .bool false, .bool false, .bool false, .bool false, .bool false, .bool false, .bool false, .bool false, .bool false, .bool false, .bool false, .bool false, .bool false, .bool false, .bool false, .bool false, .bool false, .bool false, .bool false, .bool false, .bool false, .bool false, .bool false, .bool false, .bool false, .bool false, .bool false, .bool false, .bool false, .bool false, .bool false, .bool false, .bool false, .bool false, .bool false, .bool false, .bool false, .bool false, .bool false, .bool false, .bool false, .bool false, .bool false, .bool false, .bool false, .bool false, .bool false, .bool false, .bool false, .bool false, .bool false, .bool false, .bool false, .bool false, .bool false, .bool false, .bool false, .bool false, .bool false, .bool false, .bool false, .bool false, .bool false, .bool false]) := by kernel_rfl
theorem s116 : szT Tryz.prog 116 = some 256 := by kernel_rfl
theorem b116 : byT Tryz.prog 116 = some 256 := by kernel_rfl
theorem a116 : aggT Tryz.prog 116 = some true := by kernel_rfl
theorem g116 : Tryz.prog.eqGuardType Tryz.prog.depth 116 = false := by kernel_rfl
theorem h116 : Tryz.prog.stoodInHeld 116 = false := by kernel_rfl
theorem z116 : zT Tryz.prog 116 = some (.agg [.bool false, .bool false, .bool false, .bool false, .bool false, .bool false, .bool false, .bool false, .bool false, .bool false, .bool false, .bool false, .bool false, .bool false, .bool false, .bool false, .bool false, .bool false, .bool false, .bool false, .bool false, .bool false, .bool false, .bool false, .bool false, .bool false, .bool false, .bool false, .bool false, .bool false, .bool false, .bool false, .bool false, .bool false, .bool false, .bool false, .bool false, .bool false, .bool false, .bool false, .bool false, .bool false, .bool false, .bool false, .bool false, .bool false, .bool false, .bool false, .bool false, .bool false, .bool false, .bool false, .bool false, .bool false, .bool false, .bool false, .bool false, .bool false, .bool false, .bool false, .bool false, .bool false, .bool false, .bool false, .bool false, .bool false, .bool false, .bool false, .bool false, .bool false, .bool false, .bool false, .bool false, .bool false, .bool false, .bool false, .bool false, .bool false, .bool false, .bool false, .bool false, .bool false, .bool false, .bool false, .bool false, .bool false, .bool false, .bool false, .bool false, .bool false, .bool false, .bool false, .bool false, .bool false, .bool false, .bool false, .bool false, .bool false, .bool false, .bool false, .bool false, .bool false, .bool false, .bool false, .bool false, .bool false, .bool false, .bool false, .bool false, .bool false, .bool false, .bool false, .bool false, .bool false, .bool false, .bool false, .bool false, .bool false, .bool false, .bool false, .bool false, .bool false, .bool false, .bool false, .bool false, .bool false, .bool false, .bool false, .bool false, .bool false, .bool false, .bool false, .bool false, .bool false, .bool false, .bool false, .bool false, .bool false, .bool false, .bool false, .bool false, .bool false, .bool false, .bool false, .bool false, .bool false, .bool false, .bool false, .bool false, .bool false, .bool false, .bool false, .bool false, .bool false, .bool false, .bool false, .bool false, .bool false, .bool false, .bool false, .bool false, .bool false, .bool false, .bool false, .bool false, .bool false, .bool false, .bool false, .bool false, .bool false, .bool false, .bool false, .bool false, .bool false, .bool false, .bool false, .bool false, .bool false, .bool false, .bool false, .bool false, .bool false, .bool false, .bool false, .bool false, .bool false, .bool false, .bool false, .bool false, .bool false, .bool false, .bool false, .bool false, .bool false, .bool false, .bool false, .bool false, .bool false, .bool false, .bool false, .bool false, .bool false, .bool false, .bool false, .bool false, .bool false, .bool false, .bool false, .bool false, .bool false, .bool false, .bool false, .bool false, .bool false, .bool false, .bool false, .bool false, .bool false, .bool false, .bool false, .bool false, .bool false, .bool false, .bool false, .bool false, .bool false, .bool false, .bool false, .bool false, .bool false, .bool false, .bool false, .bool false, .bool false, .bool false, .bool false, .bool false, .bool false, .bool false, .bool false, .bool false, .bool false, .bool false, .bool false, .bool false, .bool false, .bool false, .bool false, .bool false, .bool false, .bool false, .bool false, .bool false, .bool false, .bool false, .bool false]) := by kernel_rfl
theorem g118 : Tryz.prog.eqGuardType Tryz.prog.depth 118 = false := by kernel_rfl
theorem g119 : Tryz.prog.eqGuardType Tryz.prog.depth 119 = false := by kernel_rfl
theorem g120 : Tryz.prog.eqGuardType Tryz.prog.depth 120 = false := by kernel_rfl
theorem g121 : Tryz.prog.eqGuardType Tryz.prog.depth 121 = false := by kernel_rfl
theorem g122 : Tryz.prog.eqGuardType Tryz.prog.depth 122 = false := by kernel_rfl
theorem g123 : Tryz.prog.eqGuardType Tryz.prog.depth 123 = false := by kernel_rfl
theorem s123 : szT Tryz.prog 123 = some 1 := by kernel_rfl
theorem b123 : byT Tryz.prog 123 = some 8 := by kernel_rfl
theorem a123 : aggT Tryz.prog 123 = some false := by kernel_rfl
theorem z123 : zT Tryz.prog 123 = some (.nilp) := by kernel_rfl
theorem g124 : Tryz.prog.eqGuardType Tryz.prog.depth 124 = false := by kernel_rfl
theorem g125 : Tryz.prog.eqGuardType Tryz.prog.depth 125 = false := by kernel_rfl
theorem g126 : Tryz.prog.eqGuardType Tryz.prog.depth 126 = false := by kernel_rfl
theorem g128 : Tryz.prog.eqGuardType Tryz.prog.depth 128 = false := by kernel_rfl
theorem g130 : Tryz.prog.eqGuardType Tryz.prog.depth 130 = false := by kernel_rfl
theorem s131 : szT Tryz.prog 131 = some 6 := by kernel_rfl
theorem b131 : byT Tryz.prog 131 = some 48 := by kernel_rfl
theorem a131 : aggT Tryz.prog 131 = some true := by kernel_rfl
theorem g131 : Tryz.prog.eqGuardType Tryz.prog.depth 131 = false := by kernel_rfl
theorem h131 : Tryz.prog.stoodInHeld 131 = false := by kernel_rfl
theorem z131 : zT Tryz.prog 131 = some (.agg [.int .i64 0, .int .i64 0, .int .i64 0, .int .i64 0, .int .i64 0, .int .i64 0]) := by kernel_rfl
theorem s132 : szT Tryz.prog 132 = some 6 := by kernel_rfl
theorem b132 : byT Tryz.prog 132 = some 48 := by kernel_rfl
theorem a132 : aggT Tryz.prog 132 = some true := by kernel_rfl
theorem g132 : Tryz.prog.eqGuardType Tryz.prog.depth 132 = false := by kernel_rfl
theorem h132 : Tryz.prog.stoodInHeld 132 = false := by kernel_rfl
theorem z132 : zT Tryz.prog 132 = some (.agg [.int .i64 0, .int .i64 0, .int .i64 0, .int .i64 0, .int .i64 0, .int .i64 0]) := by kernel_rfl
theorem g134 : Tryz.prog.eqGuardType Tryz.prog.depth 134 = false := by kernel_rfl
theorem g135 : Tryz.prog.eqGuardType Tryz.prog.depth 135 = false := by kernel_rfl
theorem s136 : szT Tryz.prog 136 = some 3 := by kernel_rfl
theorem b136 : byT Tryz.prog 136 = some 48 := by kernel_rfl
theorem a136 : aggT Tryz.prog 136 = some true := by kernel_rfl
theorem g136 : Tryz.prog.eqGuardType Tryz.prog.depth 136 = false := by kernel_rfl
theorem h136 : Tryz.prog.stoodInHeld 136 = false := by kernel_rfl
theorem z136 : zT Tryz.prog 136 = some (.agg [.str [], .str [], .str []]) := by kernel_rfl
theorem g137 : Tryz.prog.eqGuardType Tryz.prog.depth 137 = false := by kernel_rfl
theorem s138 : szT Tryz.prog 138 = some 7 := by kernel_rfl
theorem b138 : byT Tryz.prog 138 = some 112 := by kernel_rfl
theorem a138 : aggT Tryz.prog 138 = some true := by kernel_rfl
theorem g138 : Tryz.prog.eqGuardType Tryz.prog.depth 138 = false := by kernel_rfl
theorem h138 : Tryz.prog.stoodInHeld 138 = false := by kernel_rfl
theorem z138 : zT Tryz.prog 138 = some (.agg [.str [], .str [], .str [], .str [], .str [], .str [], .str []]) := by kernel_rfl
theorem g139 : Tryz.prog.eqGuardType Tryz.prog.depth 139 = false := by kernel_rfl
theorem g140 : Tryz.prog.eqGuardType Tryz.prog.depth 140 = false := by kernel_rfl
theorem g141 : Tryz.prog.eqGuardType Tryz.prog.depth 141 = false := by kernel_rfl
theorem s142 : szT Tryz.prog 142 = some 12 := by kernel_rfl
theorem b142 : byT Tryz.prog 142 = some 192 := by kernel_rfl
theorem a142 : aggT Tryz.prog 142 = some true := by kernel_rfl
theorem g142 : Tryz.prog.eqGuardType Tryz.prog.depth 142 = false := by kernel_rfl
theorem h142 : Tryz.prog.stoodInHeld 142 = false := by kernel_rfl
theorem z142 : zT Tryz.prog 142 = some (.agg [.str [], .str [], .str [], .str [], .str [], .str [], .str [], .str [], .str [], .str [], .str [], .str []]) := by kernel_rfl
theorem g143 : Tryz.prog.eqGuardType Tryz.prog.depth 143 = false := by kernel_rfl
theorem g144 : Tryz.prog.eqGuardType Tryz.prog.depth 144 = false := by kernel_rfl
theorem g145 : Tryz.prog.eqGuardType Tryz.prog.depth 145 = false := by kernel_rfl
theorem s146 : szT Tryz.prog 146 = some 1 := by kernel_rfl
theorem b146 : byT Tryz.prog 146 = some 8 := by kernel_rfl
theorem a146 : aggT Tryz.prog 146 = some false := by kernel_rfl
theorem z146 : zT Tryz.prog 146 = some (.int .u64 0) := by kernel_rfl
theorem g147 : Tryz.prog.eqGuardType Tryz.prog.depth 147 = false := by kernel_rfl
theorem s147 : szT Tryz.prog 147 = some 1 := by kernel_rfl
theorem b147 : byT Tryz.prog 147 = some 8 := by kernel_rfl
theorem a147 : aggT Tryz.prog 147 = some false := by kernel_rfl
theorem z147 : zT Tryz.prog 147 = some (.nilp) := by kernel_rfl
theorem g148 : Tryz.prog.eqGuardType Tryz.prog.depth 148 = false := by kernel_rfl
theorem g149 : Tryz.prog.eqGuardType Tryz.prog.depth 149 = false := by kernel_rfl
theorem s150 : szT Tryz.prog 150 = some 1 := by kernel_rfl
theorem b150 : byT Tryz.prog 150 = some 8 := by kernel_rfl
theorem a150 : aggT Tryz.prog 150 = some false := by kernel_rfl
theorem z150 : zT Tryz.prog 150 = some (.int .u64 0) := by kernel_rfl
theorem g151 : Tryz.prog.eqGuardType Tryz.prog.depth 151 = false := by kernel_rfl
theorem s151 : szT Tryz.prog 151 = some 1 := by kernel_rfl
theorem b151 : byT Tryz.prog 151 = some 8 := by kernel_rfl
theorem a151 : aggT Tryz.prog 151 = some false := by kernel_rfl
theorem z151 : zT Tryz.prog 151 = some (.nilp) := by kernel_rfl
theorem g152 : Tryz.prog.eqGuardType Tryz.prog.depth 152 = false := by kernel_rfl
theorem g154 : Tryz.prog.eqGuardType Tryz.prog.depth 154 = false := by kernel_rfl
theorem g155 : Tryz.prog.eqGuardType Tryz.prog.depth 155 = false := by kernel_rfl
theorem g156 : Tryz.prog.eqGuardType Tryz.prog.depth 156 = false := by kernel_rfl
theorem g157 : Tryz.prog.eqGuardType Tryz.prog.depth 157 = false := by kernel_rfl
theorem g158 : Tryz.prog.eqGuardType Tryz.prog.depth 158 = false := by kernel_rfl
theorem g159 : Tryz.prog.eqGuardType Tryz.prog.depth 159 = false := by kernel_rfl
theorem s159 : szT Tryz.prog 159 = some 1 := by kernel_rfl
theorem b159 : byT Tryz.prog 159 = some 8 := by kernel_rfl
theorem a159 : aggT Tryz.prog 159 = some false := by kernel_rfl
theorem z159 : zT Tryz.prog 159 = some (.nilp) := by kernel_rfl
theorem g160 : Tryz.prog.eqGuardType Tryz.prog.depth 160 = false := by kernel_rfl
theorem s161 : szT Tryz.prog 161 = some 10 := by kernel_rfl
theorem b161 : byT Tryz.prog 161 = some 80 := by kernel_rfl
theorem a161 : aggT Tryz.prog 161 = some true := by kernel_rfl
theorem g161 : Tryz.prog.eqGuardType Tryz.prog.depth 161 = false := by kernel_rfl
theorem h161 : Tryz.prog.stoodInHeld 161 = false := by kernel_rfl
theorem z161 : zT Tryz.prog 161 = some (.agg [.str [], .int .i64 0, .int .i64 0, .int .i64 0, .int .i64 0, .int .i64 0, .int .i64 0, .int .i64 0, .bool false, .bool false]) := by kernel_rfl
theorem s162 : szT Tryz.prog 162 = some 10 := by kernel_rfl
theorem b162 : byT Tryz.prog 162 = some 80 := by kernel_rfl
theorem a162 : aggT Tryz.prog 162 = some true := by kernel_rfl
theorem g162 : Tryz.prog.eqGuardType Tryz.prog.depth 162 = false := by kernel_rfl
theorem h162 : Tryz.prog.stoodInHeld 162 = false := by kernel_rfl
theorem z162 : zT Tryz.prog 162 = some (.agg [.str [], .int .i64 0, .int .i64 0, .int .i64 0, .int .i64 0, .int .i64 0, .int .i64 0, .int .i64 0, .bool false, .bool false]) := by kernel_rfl
theorem g163 : Tryz.prog.eqGuardType Tryz.prog.depth 163 = false := by kernel_rfl
theorem g164 : Tryz.prog.eqGuardType Tryz.prog.depth 164 = false := by kernel_rfl
theorem g166 : Tryz.prog.eqGuardType Tryz.prog.depth 166 = false := by kernel_rfl
theorem g167 : Tryz.prog.eqGuardType Tryz.prog.depth 167 = false := by kernel_rfl
theorem g168 : Tryz.prog.eqGuardType Tryz.prog.depth 168 = false := by kernel_rfl
theorem s169 : szT Tryz.prog 169 = some 64 := by kernel_rfl
theorem b169 : byT Tryz.prog 169 = some 64 := by kernel_rfl
theorem a169 : aggT Tryz.prog 169 = some true := by kernel_rfl
theorem g169 : Tryz.prog.eqGuardType Tryz.prog.depth 169 = false := by kernel_rfl
theorem h169 : Tryz.prog.stoodInHeld 169 = false := by kernel_rfl
theorem z169 : zT Tryz.prog 169 = some (.agg [.int .u8 0, .int .u8 0, .int .u8 0, .int .u8 0, .int .u8 0, .int .u8 0, .int .u8 0, .int .u8 0, .int .u8 0, .int .u8 0, .int .u8 0, .int .u8 0, .int .u8 0, .int .u8 0, .int .u8 0, .int .u8 0, .int .u8 0, .int .u8 0, .int .u8 0, .int .u8 0, .int .u8 0, .int .u8 0, .int .u8 0, .int .u8 0, .int .u8 0, .int .u8 0, .int .u8 0, .int .u8 0, .int .u8 0, .int .u8 0, .int .u8 0, .int .u8 0, .int .u8 0, .int .u8 0, .int .u8 0, .int .u8 0, .int .u8 0, .int .u8 0, .int .u8 0, .int .u8 0, .int .u8 0, .int .u8 0, .int .u8 0, .int .u8 0, .int .u8 0, .int .u8 0, .int .u8 0, .int .u8 0, .int .u8 0, .int .u8 0, .int .u8 0, .int .u8 0, .int .u8 0, .int .u8 0, .int .u8 0, .int .u8 0, .int .u8 0, .int .u8 0, .int .u8 0, .int .u8 0, .int .u8 0, .int .u8 0, .int .u8 0, .int .u8 0]) := by kernel_rfl
theorem g171 : Tryz.prog.eqGuardType Tryz.prog.depth 171 = false := by kernel_rfl
theorem g172 : Tryz.prog.eqGuardType Tryz.prog.depth 172 = false := by kernel_rfl
theorem g173 : Tryz.prog.eqGuardType Tryz.prog.depth 173 = false := by kernel_rfl
theorem g174 : Tryz.prog.eqGuardType Tryz.prog.depth 174 = false := by kernel_rfl
theorem g175 : Tryz.prog.eqGuardType Tryz.prog.depth 175 = false := by kernel_rfl
theorem g176 : Tryz.prog.eqGuardType Tryz.prog.depth 176 = false := by kernel_rfl
theorem g177 : Tryz.prog.eqGuardType Tryz.prog.depth 177 = false := by kernel_rfl
theorem g178 : Tryz.prog.eqGuardType Tryz.prog.depth 178 = false := by kernel_rfl
theorem g180 : Tryz.prog.eqGuardType Tryz.prog.depth 180 = false := by kernel_rfl
theorem g181 : Tryz.prog.eqGuardType Tryz.prog.depth 181 = false := by kernel_rfl
theorem g182 : Tryz.prog.eqGuardType Tryz.prog.depth 182 = false := by kernel_rfl
theorem s183 : szT Tryz.prog 183 = some 1 := by kernel_rfl
theorem b183 : byT Tryz.prog 183 = some 4 := by kernel_rfl
theorem a183 : aggT Tryz.prog 183 = some false := by kernel_rfl
theorem z183 : zT Tryz.prog 183 = some (.int .u32 0) := by kernel_rfl
theorem g185 : Tryz.prog.eqGuardType Tryz.prog.depth 185 = false := by kernel_rfl
theorem g187 : Tryz.prog.eqGuardType Tryz.prog.depth 187 = false := by kernel_rfl
theorem g188 : Tryz.prog.eqGuardType Tryz.prog.depth 188 = false := by kernel_rfl
theorem s189 : szT Tryz.prog 189 = some 12 := by kernel_rfl
theorem b189 : byT Tryz.prog 189 = some 96 := by kernel_rfl
theorem a189 : aggT Tryz.prog 189 = some true := by kernel_rfl
theorem g189 : Tryz.prog.eqGuardType Tryz.prog.depth 189 = false := by kernel_rfl
theorem h189 : Tryz.prog.stoodInHeld 189 = false := by kernel_rfl
theorem z189 : zT Tryz.prog 189 = some (.agg [.int .i64 0, .int .i64 0, .int .i64 0, .int .i64 0, .int .i64 0, .int .i64 0, .int .i64 0, .int .i64 0, .int .i64 0, .int .i64 0, .int .i64 0, .int .i64 0]) := by kernel_rfl
theorem g190 : Tryz.prog.eqGuardType Tryz.prog.depth 190 = false := by kernel_rfl
theorem g191 : Tryz.prog.eqGuardType Tryz.prog.depth 191 = false := by kernel_rfl
theorem g193 : Tryz.prog.eqGuardType Tryz.prog.depth 193 = false := by kernel_rfl
theorem s194 : szT Tryz.prog 194 = some 4 := by kernel_rfl
theorem b194 : byT Tryz.prog 194 = some 40 := by kernel_rfl
theorem a194 : aggT Tryz.prog 194 = some true := by kernel_rfl
theorem z194 : zT Tryz.prog 194 = some (.agg [.nilp, .nilp, .nilp, .str []]) := by kernel_rfl
theorem s195 : szT Tryz.prog 195 = some 4 := by kernel_rfl
theorem b195 : byT Tryz.prog 195 = some 40 := by kernel_rfl
theorem a195 : aggT Tryz.prog 195 = some true := by kernel_rfl
theorem z195 : zT Tryz.prog 195 = some (.agg [.nilp, .nilp, .nilp, .str []]) := by kernel_rfl
theorem s196 : szT Tryz.prog 196 = some 0 := by kernel_rfl
theorem b196 : byT Tryz.prog 196 = some 0 := by kernel_rfl
theorem a196 : aggT Tryz.prog 196 = some true := by kernel_rfl
theorem z196 : zT Tryz.prog 196 = some (.agg []) := by kernel_rfl
theorem s197 : szT Tryz.prog 197 = some 0 := by kernel_rfl
theorem b197 : byT Tryz.prog 197 = some 0 := by kernel_rfl
theorem a197 : aggT Tryz.prog 197 = some true := by kernel_rfl
theorem z197 : zT Tryz.prog 197 = some (.agg []) := by kernel_rfl
theorem s198 : szT Tryz.prog 198 = some 0 := by kernel_rfl
theorem b198 : byT Tryz.prog 198 = some 0 := by kernel_rfl
theorem a198 : aggT Tryz.prog 198 = some true := by kernel_rfl
theorem z198 : zT Tryz.prog 198 = some (.agg []) := by kernel_rfl
theorem s199 : szT Tryz.prog 199 = some 1 := by kernel_rfl
theorem b199 : byT Tryz.prog 199 = some 1 := by kernel_rfl
theorem a199 : aggT Tryz.prog 199 = some false := by kernel_rfl
theorem z199 : zT Tryz.prog 199 = some (.int .u8 0) := by kernel_rfl
theorem s200 : szT Tryz.prog 200 = some 1 := by kernel_rfl
theorem b200 : byT Tryz.prog 200 = some 1 := by kernel_rfl
theorem a200 : aggT Tryz.prog 200 = some false := by kernel_rfl
theorem z200 : zT Tryz.prog 200 = some (.int .u8 0) := by kernel_rfl
theorem g201 : Tryz.prog.eqGuardType Tryz.prog.depth 201 = false := by kernel_rfl
theorem s202 : szT Tryz.prog 202 = some 1 := by kernel_rfl
theorem b202 : byT Tryz.prog 202 = some 4 := by kernel_rfl
theorem a202 : aggT Tryz.prog 202 = some false := by kernel_rfl
theorem z202 : zT Tryz.prog 202 = some (.int .i32 0) := by kernel_rfl
theorem s203 : szT Tryz.prog 203 = some 1 := by kernel_rfl
theorem b203 : byT Tryz.prog 203 = some 4 := by kernel_rfl
theorem a203 : aggT Tryz.prog 203 = some false := by kernel_rfl
theorem z203 : zT Tryz.prog 203 = some (.int .i32 0) := by kernel_rfl
theorem s204 : szT Tryz.prog 204 = some 11 := by kernel_rfl
theorem b204 : byT Tryz.prog 204 = some 48 := by kernel_rfl
theorem a204 : aggT Tryz.prog 204 = some true := by kernel_rfl
theorem z204 : zT Tryz.prog 204 = some (.agg [.int .u64 0, .int .u64 0, .int .u32 0, .int .u8 0, .int .u8 0, .int .u8 0, .int .u8 0, .nilf, .nilp, .int .i32 0, .int .i32 0]) := by kernel_rfl
theorem s205 : szT Tryz.prog 205 = some 11 := by kernel_rfl
theorem b205 : byT Tryz.prog 205 = some 48 := by kernel_rfl
theorem a205 : aggT Tryz.prog 205 = some true := by kernel_rfl
theorem z205 : zT Tryz.prog 205 = some (.agg [.int .u64 0, .int .u64 0, .int .u32 0, .int .u8 0, .int .u8 0, .int .u8 0, .int .u8 0, .nilf, .nilp, .int .i32 0, .int .i32 0]) := by kernel_rfl
attribute [go_sem] g1 s2 b2 a2 z2 s3 b3 a3 z3 s4 b4 a4 z4 s5 b5 a5 z5 s6 b6 a6 z6 s7 b7 a7 g7 h7 z7 s8 b8 a8 g8 h8 z8 s9 b9 a9 z9 s10 b10 a10 z10 s11 b11 a11 z11 s12 b12 a12 z12 s13 b13 a13 z13 s14 b14 a14 z14 g15 s15 b15 a15 z15 g16 s16 b16 a16 z16 g17 s17 b17 a17 z17 s18 b18 a18 z18 s19 b19 a19 z19 s20 b20 a20 z20 s21 b21 a21 z21 g22 s22 b22 a22 z22 g23 g24 g25 g26 s26 b26 a26 z26 g27 g28 g29 g30 g31 s32 b32 a32 g32 h32 z32 s33 b33 a33 g33 h33 z33 s34 b34 a34 z34 g36 g37 g39 g40 s40 b40 a40 z40 g42 g43 g44 g45 s46 b46 a46 g46 h46 z46 s47 b47 a47 g47 h47 z47 g48 g49 g50 s51 b51 a51 g51 h51 z51 s52 b52 a52 g52 h52 z52 g53 g54 g55 g56 g57 g58 s58 b58 a58 z58 g59 g60 g61 g62 g63 g64 g65 g66 g67 g68 s68 b68 a68 z68 g69 g70 g71 g72 g73 g74 g75 g77 g78 g79 s80 b80 a80 g80 h80 z80 s81 b81 a81 g81 h81 z81 g82 g83 g84 g85 g87 g88 g89 s89 b89 a89 z89 s90 b90 a90 z90 s91 b91 a91 z91 g92 s93 b93 a93 z93 s94 b94 a94 z94 g96 g97 g98 s98 b98 a98 z98 g99 s100 b100 a100 g100 h100 z100 s101 b101 a101 g101 h101 z101 g103 g105 g106 g107 g108 s109 b109 a109 g109 h109 z109 s110 b110 a110 g110 h110 z110 g111 g113 g114 s115 b115 a115 g115 h115 z115 s116 b116 a116 g116 h116 z116 g118 g119 g120 g121 g122 g123 s123 b123 a123 z123 g124 g125 g126 g128 g130 s131 b131 a131 g131 h131 z131 s132 b132 a132 g132 h132 z132 g134 g135 s136 b136 a136 g136 h136 z136 g137 s138 b138 a138 g138 h138 z138 g139 g140 g141 s142 b142 a142 g142 h142 z142 g143 g144 g145 s146 b146 a146 z146 g147 s147 b147 a147 z147 g148 g149 s150 b150 a150 z150 g151 s151 b151 a151 z151 g152 g154 g155 g156 g157 g158 g159 s159 b159 a159 z159 g160 s161 b161 a161 g161 h161 z161 s162 b162 a162 g162 h162 z162 g163 g164 g166 g167 g168 s169 b169 a169 g169 h169 z169 g171 g172 g173 g174 g175 g176 g177 g178 g180 g181 g182 s183 b183 a183 z183 g185 g187 g188 s189 b189 a189 g189 h189 z189 g190 g191 g193 s194 b194 a194 z194 s195 b195 a195 z195 s196 b196 a196 z196 s197 b197 a197 z197 s198 b198 a198 z198 s199 b199 a199 z199 s200 b200 a200 z200 g201 s202 b202 a202 z202 s203 b203 a203 z203 s204 b204 a204 z204 s205 b205 a205 z205 Tryz.underlying1 Tryz.underlying2 Tryz.underlying3 Tryz.underlying4 Tryz.underlying5 Tryz.underlying6 Tryz.underlying7 Tryz.underlying8 Tryz.underlying9 Tryz.underlying10 Tryz.underlying11 Tryz.underlying12 Tryz.underlying13 Tryz.underlying14 Tryz.underlying15 Tryz.underlying16 Tryz.underlying17 Tryz.underlying18 Tryz.underlying19 Tryz.underlying20 Tryz.underlying21 Tryz.underlying22 Tryz.underlying23 Tryz.underlying24 Tryz.underlying25 Tryz.underlying26 Tryz.underlying27 Tryz.underlying28 Tryz.underlying29 Tryz.underlying30 Tryz.underlying31 Tryz.underlying32 Tryz.underlying33 Tryz.underlying34 Tryz.underlying36 Tryz.underlying37 Tryz.underlying39 Tryz.underlying40 Tryz.underlying42 Tryz.underlying43 Tryz.underlying44 Tryz.underlying45 Tryz.underlying46 Tryz.underlying47 Tryz.underlying48 Tryz.underlying49 Tryz.underlying50 Tryz.underlying51 Tryz.underlying52 Tryz.underlying53 Tryz.underlying54 Tryz.underlying55 Tryz.underlying56 Tryz.underlying57 Tryz.underlying58 Tryz.underlying59 Tryz.underlying60 Tryz.underlying61 Tryz.underlying62 Tryz.underlying63 Tryz.underlying64 Tryz.underlying65 Tryz.underlying66 Tryz.underlying67 Tryz.underlying68 Tryz.underlying69 Tryz.underlying70 Tryz.underlying71 Tryz.underlying72 Tryz.underlying73 Tryz.underlying74 Tryz.underlying75 Tryz.underlying77 Tryz.underlying78 Tryz.underlying79 Tryz.underlying80 Tryz.underlying81 Tryz.underlying82 Tryz.underlying83 Tryz.underlying84 Tryz.underlying85 Tryz.underlying87 Tryz.underlying88 Tryz.underlying89 Tryz.underlying90 Tryz.underlying91 Tryz.underlying92 Tryz.underlying93 Tryz.underlying94 Tryz.underlying96 Tryz.underlying97 Tryz.underlying98 Tryz.underlying99 Tryz.underlying100 Tryz.underlying101 Tryz.underlying103 Tryz.underlying105 Tryz.underlying106 Tryz.underlying107 Tryz.underlying108 Tryz.underlying109 Tryz.underlying110 Tryz.underlying111 Tryz.underlying113 Tryz.underlying114 Tryz.underlying115 Tryz.underlying116 Tryz.underlying118 Tryz.underlying119 Tryz.underlying120 Tryz.underlying121 Tryz.underlying122 Tryz.underlying123 Tryz.underlying124 Tryz.underlying125 Tryz.underlying126 Tryz.underlying128 Tryz.underlying130 Tryz.underlying131 Tryz.underlying132 Tryz.underlying134 Tryz.underlying135 Tryz.underlying136 Tryz.underlying137 Tryz.underlying138 Tryz.underlying139 Tryz.underlying140 Tryz.underlying141 Tryz.underlying142 Tryz.underlying143 Tryz.underlying144 Tryz.underlying145 Tryz.underlying146 Tryz.underlying147 Tryz.underlying148 Tryz.underlying149 Tryz.underlying150 Tryz.underlying151 Tryz.underlying152 Tryz.underlying154 Tryz.underlying155 Tryz.underlying156 Tryz.underlying157 Tryz.underlying158 Tryz.underlying159 Tryz.underlying160 Tryz.underlying161 Tryz.underlying162 Tryz.underlying163 Tryz.underlying164 Tryz.underlying166 Tryz.underlying167 Tryz.underlying168 Tryz.underlying169 Tryz.underlying171 Tryz.underlying172 Tryz.underlying173 Tryz.underlying174 Tryz.underlying175 Tryz.underlying176 Tryz.underlying177 Tryz.underlying178 Tryz.underlying180 Tryz.underlying181 Tryz.underlying182 Tryz.underlying183 Tryz.underlying185 Tryz.underlying187 Tryz.underlying188 Tryz.underlying189 Tryz.underlying190 Tryz.underlying191 Tryz.underlying193 Tryz.underlying194 Tryz.underlying195 Tryz.underlying196 Tryz.underlying197 Tryz.underlying198 Tryz.underlying199 Tryz.underlying200 Tryz.underlying201 Tryz.underlying202 Tryz.underlying203 Tryz.underlying204 Tryz.underlying205
end Go.Proofs.Tryz.Ty
end
section
set_option linter.unusedVariables false
set_option linter.unusedSimpArgs false
namespace Go.Abs
theorem bget (s : List UInt8) (i : Nat) : (ByteArray.mk s.toArray).get! i = s.getD i 0 := by
  show s.toArray[i]! = _
  rw [getElem!_def]
  simp only [List.getElem?_toArray, List.getD_eq_getElem?_getD]
  cases s[i]? <;> rfl
theorem bsize (s : List UInt8) : (ByteArray.mk s.toArray).size = s.length := by simp [ByteArray.size]
theorem rune_low {s : List UInt8} {pos : Nat} (h : (s.getD pos 0).toNat < 128) : runeAt s pos = (((s.getD pos 0).toNat : Int), 1) := by
  simp only [runeAt, Utf8.decode, Nat.add_zero, bget, h, if_true]
theorem rune_high {s : List UInt8} {pos : Nat} (hp : pos < s.length) (h : 128 ≤ (s.getD pos 0).toNat) :
    128 ≤ (runeAt s pos).1 ∧ (runeAt s pos).1 ≤ 2147483647 ∧ 1 ≤ (runeAt s pos).2 ∧ pos + (runeAt s pos).2 ≤ s.length ∧ ∀ k, k < (runeAt s pos).2 → 128 ≤ (s.getD (pos + k) 0).toNat := by
  have hn : ¬ (s.getD pos 0).toNat < 128 := by omega
  have hb : ∀ k, (s.getD k 0).toNat < 256 := fun k => (s.getD k 0).toNat_lt
  have b0 := hb pos
  have b1 := hb (pos + 1)
  have b2 := hb (pos + 2)
  have b3 := hb (pos + 3)
  have k1 : ∀ k, k < 1 → 128 ≤ (s.getD (pos + k) 0).toNat := fun k hk => by
    have : k = 0 := by omega
    subst this; exact h
  simp only [runeAt, Utf8.decode, Nat.add_zero, bget, bsize, if_neg hn, Utf8.runeError]
  split
  · rename_i c
    simp only [Bool.and_eq_true, decide_eq_true_eq, beq_iff_eq] at c
    split
    · refine ⟨by simp only; omega, by simp only; omega, by simp, by simp only; omega, fun k hk => ?_⟩
      simp only at hk
      have : k = 0 ∨ k = 1 := by omega
      rcases this with rfl | rfl
      · exact h
      · omega
    · exact ⟨by simp, by simp, by simp, by simp only; omega, k1⟩
  · split
    · rename_i c
      simp only [Bool.and_eq_true, decide_eq_true_eq, beq_iff_eq] at c
      split
      · rename_i v
        simp only [Bool.and_eq_true, decide_eq_true_eq] at v
        refine ⟨by simp only; omega, by simp only; omega, by simp, by simp only; omega, fun k hk => ?_⟩
        simp only at hk
        have : k = 0 ∨ k = 1 ∨ k = 2 := by omega
        rcases this with rfl | rfl | rfl
        · exact h
        · omega
        · omega
      · exact ⟨by simp, by simp, by simp, by simp only; omega, k1⟩
    · split
      · rename_i c
        simp only [Bool.and_eq_true, decide_eq_true_eq, beq_iff_eq] at c
        split
        · rename_i v
          simp only [Bool.and_eq_true, decide_eq_true_eq] at v
          refine ⟨by simp only; omega, by simp only; omega, by simp, by simp only; omega, fun k hk => ?_⟩
          simp only at hk
          have : k = 0 ∨ k = 1 ∨ k = 2 ∨ k = 3 := by omega
          rcases this with rfl | rfl | rfl | rfl
          · exact h
          · omega
          · omega
          · omega
        · exact ⟨by simp, by simp, by simp, by simp only; omega, k1⟩
      · exact ⟨by simp, by simp, by simp, by simp only; omega, k1⟩
theorem rune_pos {s : List UInt8} {pos : Nat} (hp : pos < s.length) : 0 ≤ (runeAt s pos).1 ∧ 1 ≤ (runeAt s pos).2 ∧ pos + (runeAt s pos).2 ≤ s.length := by
  by_cases h : (s.getD pos 0).toNat < 128
  · rw [rune_low h]; exact ⟨by simp only; omega, by simp, by simp only; omega⟩
  · obtain ⟨h1, h2, h3, h4, _⟩ := rune_high hp (by omega)
    exact ⟨by omega, h3, h4⟩
structure RuneB (PR : Int → Bool) (p : UInt8 → Bool) (b : Bool) : Prop where
  low : ∀ c : UInt8, c.toNat < 128 → PR c.toNat = p c
  rune : ∀ r : Int, 128 ≤ r → PR r = b
  high : ∀ c : UInt8, 128 ≤ c.toNat → p c = b
theorem getD_of_lt {α : Type} {s : List α} {d : α} {i : Nat} (h : i < s.length) : s[i]? = some (s.getD i d) := by
  rw [List.getElem?_eq_getElem h]; simp [List.getD_eq_getElem?_getD, List.getElem?_eq_getElem h]
theorem take_all_add {p : UInt8 → Bool} {s : List UInt8} {pos n : Nat} (h : (s.take pos).all p = true) (hn : ∀ k, k < n → p (s.getD (pos + k) 0) = true) (hle : pos + n ≤ s.length) : (s.take (pos + n)).all p = true := by
  rw [List.take_add, List.all_append, h, Bool.true_and, List.all_eq_true]
  intro x hx
  obtain ⟨i, hi⟩ := List.getElem?_of_mem hx
  rw [List.getElem?_take] at hi
  split at hi
  · rename_i hlt
    rw [List.getElem?_drop, getD_of_lt (d := 0) (by omega)] at hi
    cases hi
    exact hn i hlt
  · cases hi
theorem RuneB.step {PR : Int → Bool} {p : UInt8 → Bool} {b : Bool} (h : RuneB PR p b) {s : List UInt8} {pos : Nat} (hp : pos < s.length) (ha : (s.take pos).all p = true) :
    (PR (runeAt s pos).1 = true → (s.take (pos + (runeAt s pos).2)).all p = true) ∧ (PR (runeAt s pos).1 = false → s.all p = false) := by
  have bad : ∀ {x : UInt8}, s[pos]? = some x → p x = false → s.all p = false := by
    intro x hx hpx
    rw [← Bool.not_eq_true, List.all_eq_true]
    intro hh
    have := hh x (List.mem_of_getElem? hx)
    rw [hpx] at this; cases this
  have hg := getD_of_lt (s := s) (d := 0) hp
  by_cases hl : (s.getD pos 0).toNat < 128
  · rw [rune_low hl]
    refine ⟨fun he => ?_, fun he => bad hg (by rw [← h.low _ hl]; exact he)⟩
    refine take_all_add ha (fun k hk => ?_) (by omega)
    have : k = 0 := by omega
    subst this
    rw [Nat.add_zero, ← h.low _ hl]; exact he
  · obtain ⟨h1, h2, h3, h4, h5⟩ := rune_high hp (by omega)
    rw [h.rune _ h1]
    refine ⟨fun he => take_all_add ha (fun k hk => by rw [h.high _ (h5 k hk)]; exact he) h4, fun he => bad hg (by rw [h.high _ (by omega)]; exact he)⟩
theorem all_step {p : UInt8 → Bool} {s : List UInt8} {x : Nat} (hx : x < s.length) (h : (s.take x).all p = true) :
    (p (s.getD x 0) = true → (s.take (x + 1)).all p = true) ∧ (p (s.getD x 0) = false → s.all p = false) := by
  refine ⟨fun hp => take_all_add h (fun k hk => ?_) (by omega), fun hp => ?_⟩
  · have : k = 0 := by omega
    subst this; exact hp
  · rw [← Bool.not_eq_true, List.all_eq_true]
    intro hh
    have := hh _ (List.mem_of_getElem? (getD_of_lt (s := s) (d := 0) hx))
    rw [hp] at this; cases this
theorem take_succ_getD {α : Type} {s : List α} {x : Nat} (d : α) (hx : x < s.length) : s.take (x + 1) = s.take x ++ [s.getD x d] := by
  rw [List.take_succ_eq_append_getElem hx]
  simp [List.getD_eq_getElem?_getD, List.getElem?_eq_getElem hx]
theorem same_step {α : Type} {a b : List α} {x : Nat} (d : α) (hl : a.length = b.length) (hx : x < a.length) (h : a.take x = b.take x) :
    (a.getD x d = b.getD x d → a.take (x + 1) = b.take (x + 1)) ∧ (a.getD x d ≠ b.getD x d → a ≠ b) := by
  refine ⟨fun he => ?_, fun hne e => hne (by rw [e])⟩
  rw [take_succ_getD d hx, take_succ_getD d (by omega), h, he]
end Go.Abs
end
section
set_option linter.unusedVariables false
set_option linter.unusedSimpArgs false
namespace Go.Mdl
open Go Go.Abs
def marksB : List UInt8 := [33, 35, 36, 37, 38, 39, 42, 43, 45, 46, 94, 95, 96, 124, 126]
def alnumI (r : Int) : Bool := decide (97 ≤ r ∧ r ≤ 122 ∨ 65 ≤ r ∧ r ≤ 90 ∨ 48 ≤ r ∧ r ≤ 57)
def tcharI (r : Int) : Bool := alnumI r || marksB.any fun m => decide ((m.toNat : Int) = r)
def tcharB (c : UInt8) : Bool := tcharI c.toNat
def valueI (r : Int) : Bool := decide (r = 9 ∨ 32 ≤ r ∧ r ≠ 127)
def valueB (c : UInt8) : Bool := valueI c.toNat
def tokenS (s : List UInt8) : Bool := !decide (s = []) && s.all tcharB
def valueS (s : List UInt8) : Bool := s.all valueB
def lowerB (c : UInt8) : UInt8 := if 65 ≤ c.toNat ∧ c.toNat ≤ 90 then c + 32 else c
def lowerS (s : List UInt8) : List UInt8 := s.map lowerB
def blankB (c : UInt8) : Bool := decide (c = 32) || decide (c = 9)
def trimL (s : List UInt8) : List UInt8 := s.dropWhile blankB
def trimR (s : List UInt8) : List UInt8 := (s.reverse.dropWhile blankB).reverse
def trimS (s : List UInt8) : List UInt8 := trimR (trimL s)
theorem tchar_rune : RuneB tcharI tcharB false := by
  have big : ∀ r : Int, 128 ≤ r → tcharI r = false := by
    intro r hr
    have h1 : alnumI r = false := by simp [alnumI]; omega
    simp only [tcharI, h1, Bool.false_or, marksB, List.any_cons, List.any_nil, Bool.or_false, Bool.or_eq_false_iff, decide_eq_false_iff_not]
    simp
    omega
  exact ⟨fun c _ => rfl, big, fun c h => big _ (by omega)⟩
theorem value_rune : RuneB valueI valueB true :=
  ⟨fun c _ => rfl, fun r h => by simp [valueI]; omega, fun c h => by simp [valueB, valueI]; omega⟩
theorem tchar_alnum {r : Int} (h : (97 ≤ r ∧ r ≤ 122) ∨ (65 ≤ r ∧ r ≤ 90) ∨ (48 ≤ r ∧ r ≤ 57)) : tcharI r = true := by
  have : alnumI r = true := by simp [alnumI]; omega
  simp [tcharI, this]
theorem marks_low (i : Nat) : (marksB.getD i 0).toNat < 128 := by
  by_cases h : i < 15
  · have : i = 0 ∨ i = 1 ∨ i = 2 ∨ i = 3 ∨ i = 4 ∨ i = 5 ∨ i = 6 ∨ i = 7 ∨ i = 8 ∨ i = 9 ∨ i = 10 ∨ i = 11 ∨ i = 12 ∨ i = 13 ∨ i = 14 := by omega
    rcases this with rfl | rfl | rfl | rfl | rfl | rfl | rfl | rfl | rfl | rfl | rfl | rfl | rfl | rfl | rfl <;> decide
  · have : marksB.getD i 0 = 0 := by
      rw [List.getD_eq_getElem?_getD, List.getElem?_eq_none (by simp [marksB]; omega)]; rfl
    rw [this]; decide
def NoMark (r : Int) (n : Nat) : Prop := ∀ i, i < n → ((marksB.getD i 0).toNat : Int) ≠ r
theorem tchar_mark {r : Int} {i : Nat} (hi : i < 15) (h : ((marksB.getD i 0).toNat : Int) = r) : tcharI r = true := by
  have hl : i < marksB.length := by simpa [marksB] using hi
  have hm := List.mem_of_getElem? (getD_of_lt (s := marksB) (d := 0) hl)
  have : (marksB.any fun m => decide ((m.toNat : Int) = r)) = true := by
    rw [List.any_eq_true]; exact ⟨_, hm, by simpa using h⟩
  simp [tcharI, this]
theorem tchar_no {r : Int} (h : ¬ ((97 ≤ r ∧ r ≤ 122) ∨ (65 ≤ r ∧ r ≤ 90) ∨ (48 ≤ r ∧ r ≤ 57))) (hn : NoMark r 15) : tcharI r = false := by
  have h1 : alnumI r = false := by
    rw [← Bool.not_eq_true]; intro hh; simp [alnumI] at hh; omega
  have h2 : (marksB.any fun m => decide ((m.toNat : Int) = r)) = false := by
    rw [← Bool.not_eq_true, List.any_eq_true]
    rintro ⟨x, hx, he⟩
    obtain ⟨i, hi⟩ := List.getElem?_of_mem hx
    have hl : i < marksB.length := (List.getElem?_eq_some_iff.1 hi).1
    rw [getD_of_lt (d := 0) hl] at hi
    cases hi
    exact hn i (by simpa [marksB] using hl) (by simpa using he)
  simp [tcharI, h1, h2]
end Go.Mdl
end
section
set_option linter.unusedVariables false
set_option linter.unusedSimpArgs false
namespace Go.Proofs.Tryz.Oct
open Go Go.Abs Go.Proofs Go.Mdl
theorem mlen : marksB.length = 15 := rfl
def T_specTchar : Tbl := fun g E args => nilT g E args
theorem T_specTchar_ok : TblOK Tryz.prog T_specTchar := nilT_ok
set_option maxRecDepth 100000 in
set_option maxHeartbeats 4000000 in
theorem specTchar (r : Int) : SpecE Tryz.prog 117 [] [.int .i32 r] [] (.bool (tcharI r)) := by
  refine specF0 (C := T_specTchar) (wr := false) (D := fun _ => []) (U := fun i => if i = 5 then some ⟨Unit, fun _ => ⟨[(0, .int .i32 r)], []⟩, fun _ => ¬ ((97 ≤ r ∧ r ≤ 122) ∨ (65 ≤ r ∧ r ≤ 90) ∨ (48 ≤ r ∧ r ≤ 57))⟩ else none) (res := [.bool (tcharI r)]) Tryz.Ty.mixed T_specTchar_ok Tryz.func117 (nA := 1) (by decide +kernel) rfl (fun _ => rfl) ?_
  simp only [Tryz.f117, bodyOf, rlOf]
  rw [W_V]
  simp (config := {maxSteps := 2000000}) only [T_specTchar, go_sem, seval]
  (try simp (config := {maxSteps := 2000000}) only [gimp, impB, isT, go_sem, seval])
  refine ⟨?_, fun hno => ?_⟩
  · simp only [Bool.and_eq_false_iff, decide_eq_false_iff_not]
    refine ⟨fun h1 h2 => ⟨fun _ _ => (tchar_alnum (by omega)).symm, fun h => by omega⟩, fun h => ⟨fun h1 h2 => ⟨fun _ _ => (tchar_alnum (by omega)).symm, fun h => by omega⟩, fun h' => ⟨fun h1 h2 => (tchar_alnum (by omega)).symm, fun h'' => ⟨(), by omega⟩⟩⟩⟩
  refine VL_inv (X := Nat) (fun x => ⟨[(0, .int .i32 r), (24, .it 400)], [(400, .iter marksB x)]⟩) (fun x => x ≤ 15 ∧ NoMark r x) (fun x => 15 - x) 0 ?_ ?_ ?_
  · simp only [go_sem, go_sem, seval]
    rfl
  · exact ⟨Nat.zero_le _, fun i hi => by omega⟩
  rintro x ⟨hx, hn⟩
  simp (config := {maxSteps := 2000000}) only [T_specTchar, go_sem, seval]
  (try simp (config := {maxSteps := 2000000}) only [gimp, impB, isT, go_sem, seval])
  simp only [rune_low (marks_low x), mlen]
  refine ⟨fun hlt => ⟨hlt, fun he => (tchar_mark hlt he).symm, fun hne => ?_⟩, fun hge => ?_⟩
  · refine ⟨x + 1, by rw [if_pos hlt], ⟨by omega, fun i hi => ?_⟩, by omega⟩
    · by_cases e : i = x
      · subst e; exact hne
      · exact hn i (by omega)
  · have : x = 15 := by omega
    subst this
    exact (tchar_no hno hn).symm
def tb_specTchar : List Blk → List AV → Option (List Blk × AV × Prop)
  | [], [.int .i32 r] => some ([], .bool (tcharI r), True)
  | _, _ => none
theorem tb_specTchar_ok : ∀ E args E' res p, tb_specTchar E args = some (E', res, p) → p → SpecE Tryz.prog 117 E args E' res := by
  intro E args E' res p h hp
  unfold tb_specTchar at h
  split at h
  · simp only [Option.some.injEq, Prod.mk.injEq] at h
    obtain ⟨rfl, rfl, rfl⟩ := h
    exact (specTchar _)
  · cases h
def T_specTcharR : Tbl := fun g E args => nilT g E args
theorem T_specTcharR_ok : TblOK Tryz.prog T_specTcharR := nilT_ok
set_option maxRecDepth 100000 in
set_option maxHeartbeats 4000000 in
theorem specTcharR (c : UInt8) : SpecE Tryz.prog 51 [] [enc_u8 c] [] (.bool (tcharB c)) := by
  refine specF0 (C := T_specTcharR) (wr := false) (D := fun _ => []) (U := fun _ => none) (res := [.bool (tcharB c)]) Tryz.Ty.mixed T_specTcharR_ok Tryz.func51 (nA := 1) (by decide +kernel) rfl (fun _ => rfl) ?_
  simp only [Tryz.f51, bodyOf, rlOf]
  rw [W_V]
  simp (config := {maxSteps := 2000000}) only [T_specTcharR, go_sem, seval]
  (try simp (config := {maxSteps := 2000000}) only [gimp, impB, isT, go_sem, seval])
  refine ⟨fun h => ?_, fun h1 h2 h3 => ?_⟩
  · exact (tchar_alnum (by omega)).symm
  refine VL_inv (X := Nat) (fun x => ⟨[(0, .int .u8 c.toNat), (3, .str marksB), (4, .int .i64 x)], []⟩) (fun x => x ≤ 15 ∧ NoMark c.toNat x) (fun x => 15 - x) 0 ?_ ?_ ?_
  · simp only [go_sem, go_sem, seval]
    rfl
  · exact ⟨Nat.zero_le _, fun i hi => by omega⟩
  rintro x ⟨hx, hn⟩
  simp (config := {maxSteps := 2000000}) only [T_specTcharR, go_sem, seval]
  (try simp (config := {maxSteps := 2000000}) only [gimp, impB, isT, go_sem, seval])
  simp only [mlen]
  refine ⟨fun hlt => ⟨by omega, fun he => (tchar_mark (i := x) (by omega) (by rw [he])).symm, fun hne => ⟨by omega, x + 1, by omega, ⟨by omega, fun i hi => ?_⟩, by omega⟩⟩, fun hge => ?_⟩
  · by_cases e : i = x
    · subst e; intro h; exact hne (UInt8.toNat.inj (by omega))
    · exact hn i (by omega)
  · have : x = 15 := by omega
    subst this
    simp only [Bool.and_eq_false_iff, decide_eq_false_iff_not] at h1 h2 h3
    exact (tchar_no (by omega) hn).symm
def tb_specTcharR : List Blk → List AV → Option (List Blk × AV × Prop)
  | [], [a0] => some ([], .bool (tcharB (dec_u8 a0)), argOK a0 (enc_u8 (dec_u8 a0)))
  | _, _ => none
theorem tb_specTcharR_ok : ∀ E args E' res p, tb_specTcharR E args = some (E', res, p) → p → SpecE Tryz.prog 51 E args E' res := by
  intro E args E' res p h hp
  unfold tb_specTcharR at h
  split at h
  · simp only [Option.some.injEq, Prod.mk.injEq] at h
    obtain ⟨rfl, rfl, rfl⟩ := h
    exact SpecE.args (specTcharR _) (.cons hp .nil)
  · cases h
def T_specTcharX : Tbl := fun g E args => (addT nilT 117 Go.Proofs.Tryz.Oct.tb_specTchar) g E args
theorem T_specTcharX_ok : TblOK Tryz.prog T_specTcharX := (addT_ok nilT_ok (by decide +kernel) Go.Proofs.Tryz.Oct.tb_specTchar_ok)
set_option maxRecDepth 100000 in
set_option maxHeartbeats 4000000 in
theorem specTcharX (c : UInt8) : SpecE Tryz.prog 207 [] [enc_u8 c] [] (.bool (tcharB c)) := by
  refine specF0 (C := T_specTcharX) (wr := false) (D := fun _ => []) (U := fun _ => none) (res := [.bool (tcharB c)]) Tryz.Ty.mixed T_specTcharX_ok Tryz.func207 (nA := 1) (by decide +kernel) rfl (fun _ => rfl) ?_
  simp only [Tryz.f207, bodyOf, rlOf]
  rw [W_V]
  simp (config := {maxSteps := 2000000}) only [T_specTcharX, Go.Proofs.Tryz.Oct.tb_specTchar, go_sem, seval]
  (try simp (config := {maxSteps := 2000000}) only [gimp, impB, isT, go_sem, seval])
  have := c.toNat_lt
  exact ⟨by omega, rfl⟩
def T_specValueP : Tbl := fun g E args => nilT g E args
theorem T_specValueP_ok : TblOK Tryz.prog T_specValueP := nilT_ok
set_option maxRecDepth 100000 in
set_option maxHeartbeats 4000000 in
theorem specValueP (r : Int) : SpecE Tryz.prog 218 [] [.int .i32 r] [] (.bool (valueI r)) := by
  refine specF0 (C := T_specValueP) (wr := false) (D := fun _ => []) (U := fun _ => none) (res := [.bool (valueI r)]) Tryz.Ty.mixed T_specValueP_ok Tryz.func218 (nA := 1) (by decide +kernel) rfl (fun _ => rfl) ?_
  simp only [Tryz.f218, bodyOf, rlOf]
  rw [W_V]
  simp (config := {maxSteps := 2000000}) only [T_specValueP, go_sem, seval]
  (try simp (config := {maxSteps := 2000000}) only [gimp, impB, isT, go_sem, seval])
  simp [valueI]
theorem spec_all {f : FuncId} (hy : ¬ f = 1000000) {PR : Int → Bool} {p : UInt8 → Bool} {b : Bool} (hr : RuneB PR p b) (hs : ∀ r, SpecE Tryz.prog f [] [.int .i32 r] [] (.bool (PR r))) (s : List UInt8) :
    SpecE Tryz.prog 116 [] [.str s, .clo f 0 []] [] (.bool (s.all p)) := by
  let tb : List Blk → List AV → Option (List Blk × AV × Prop) := fun E args => match E, args with
    | [], [.int .i32 r] => some ([], .bool (PR r), True)
    | _, _ => none
  have htb : TblOK Tryz.prog (addT nilT f tb) := addT_ok nilT_ok (by simp) (fun E args E' res q h hp => by
    simp only [tb] at h
    split at h
    · simp only [Option.some.injEq, Prod.mk.injEq] at h
      obtain ⟨rfl, rfl, rfl⟩ := h
      exact hs _
    · cases h)
  refine specF0 (C := addT nilT f tb) (wr := false) (D := fun _ => []) (U := fun _ => none) (res := [.bool (s.all p)]) Tryz.Ty.mixed htb Tryz.func116 (nA := 2) (by decide +kernel) rfl (fun _ => rfl) ?_
  simp only [Tryz.f116, bodyOf, rlOf]
  rw [W_V]
  simp only [go_sem, go_sem, seval, Tryz.underlying9]
  refine VL_inv (X := Nat) (fun x => ⟨[(1, .clo f 0 []), (8, .it 144)], [(144, .iter s x)]⟩) (fun x => x ≤ s.length ∧ (s.take x).all p = true) (fun x => s.length - x) 0 ?_ ?_ ?_
  · simp only [go_sem, go_sem, seval]
  · exact ⟨Nat.zero_le _, by simp⟩
  rintro x ⟨hx, hn⟩
  simp only [tb, hy, go_sem, go_sem, seval, Tryz.underlying9]
  refine ⟨fun hlt => ?_, fun hge => ?_⟩
  · obtain ⟨h1, h2⟩ := hr.step hlt hn
    have h3 := rune_pos hlt
    refine ⟨hlt, fun he => (h2 he).symm, fun he => ⟨x + (runeAt s x).2, by rw [if_pos hlt], ⟨h3.2.2, h1 (by simpa using he)⟩, by omega⟩⟩
  · have : x = s.length := by omega
    subst this
    rw [List.take_length] at hn
    exact hn.symm
set_option maxRecDepth 100000 in
set_option maxHeartbeats 4000000 in
theorem specAllTchar (s : List UInt8) : SpecE Tryz.prog 116 [] [.str s, .clo 117 0 []] [] (.bool (s.all tcharB)) := by
  exact spec_all (by decide) tchar_rune specTchar s
def tb_specAllTchar : List Blk → List AV → Option (List Blk × AV × Prop)
  | [], [.str s, .clo 117 0 []] => some ([], .bool (s.all tcharB), True)
  | _, _ => none
theorem tb_specAllTchar_ok : ∀ E args E' res p, tb_specAllTchar E args = some (E', res, p) → p → SpecE Tryz.prog 116 E args E' res := by
  intro E args E' res p h hp
  unfold tb_specAllTchar at h
  split at h
  · simp only [Option.some.injEq, Prod.mk.injEq] at h
    obtain ⟨rfl, rfl, rfl⟩ := h
    exact (specAllTchar _)
  · cases h
set_option maxRecDepth 100000 in
set_option maxHeartbeats 4000000 in
theorem specAllValue (s : List UInt8) : SpecE Tryz.prog 116 [] [.str s, .clo 218 0 []] [] (.bool (s.all valueB)) := by
  exact spec_all (by decide) value_rune specValueP s
def tb_specAllValue : List Blk → List AV → Option (List Blk × AV × Prop)
  | [], [.str s, .clo 218 0 []] => some ([], .bool (s.all valueB), True)
  | _, _ => none
theorem tb_specAllValue_ok : ∀ E args E' res p, tb_specAllValue E args = some (E', res, p) → p → SpecE Tryz.prog 116 E args E' res := by
  intro E args E' res p h hp
  unfold tb_specAllValue at h
  split at h
  · simp only [Option.some.injEq, Prod.mk.injEq] at h
    obtain ⟨rfl, rfl, rfl⟩ := h
    exact (specAllValue _)
  · cases h
def T_specToken : Tbl := fun g E args => (addT nilT 116 Go.Proofs.Tryz.Oct.tb_specAllTchar) g E args
theorem T_specToken_ok : TblOK Tryz.prog T_specToken := (addT_ok nilT_ok (by decide +kernel) Go.Proofs.Tryz.Oct.tb_specAllTchar_ok)
set_option maxRecDepth 100000 in
set_option maxHeartbeats 4000000 in
theorem specToken (s : List UInt8) : SpecE Tryz.prog 79 [] [.str s] [] (.bool (tokenS s)) := by
  refine specF0 (C := T_specToken) (wr := false) (D := fun _ => []) (U := fun _ => none) (res := [.bool (tokenS s)]) Tryz.Ty.mixed T_specToken_ok Tryz.func79 (nA := 1) (by decide +kernel) rfl (fun _ => rfl) ?_
  simp only [Tryz.f79, bodyOf, rlOf]
  rw [W_V]
  simp (config := {maxSteps := 2000000}) only [T_specToken, Go.Proofs.Tryz.Oct.tb_specAllTchar, go_sem, seval]
  (try simp (config := {maxSteps := 2000000}) only [gimp, impB, isT, go_sem, seval])
  rfl
def tb_specToken : List Blk → List AV → Option (List Blk × AV × Prop)
  | [], [.str s] => some ([], .bool (tokenS s), True)
  | _, _ => none
theorem tb_specToken_ok : ∀ E args E' res p, tb_specToken E args = some (E', res, p) → p → SpecE Tryz.prog 79 E args E' res := by
  intro E args E' res p h hp
  unfold tb_specToken at h
  split at h
  · simp only [Option.some.injEq, Prod.mk.injEq] at h
    obtain ⟨rfl, rfl, rfl⟩ := h
    exact (specToken _)
  · cases h
def T_specValue : Tbl := fun g E args => (addT nilT 116 Go.Proofs.Tryz.Oct.tb_specAllValue) g E args
theorem T_specValue_ok : TblOK Tryz.prog T_specValue := (addT_ok nilT_ok (by decide +kernel) Go.Proofs.Tryz.Oct.tb_specAllValue_ok)
set_option maxRecDepth 100000 in
set_option maxHeartbeats 4000000 in
theorem specValue (s : List UInt8) : SpecE Tryz.prog 208 [] [.str s] [] (.bool (valueS s)) := by
  refine specF0 (C := T_specValue) (wr := false) (D := fun _ => []) (U := fun _ => none) (res := [.bool (valueS s)]) Tryz.Ty.mixed T_specValue_ok Tryz.func208 (nA := 1) (by decide +kernel) rfl (fun _ => rfl) ?_
  simp only [Tryz.f208, bodyOf, rlOf]
  rw [W_V]
  simp (config := {maxSteps := 2000000}) only [T_specValue, Go.Proofs.Tryz.Oct.tb_specAllValue, go_sem, seval]
  (try simp (config := {maxSteps := 2000000}) only [gimp, impB, isT, go_sem, seval])
  rfl
def tb_specValue : List Blk → List AV → Option (List Blk × AV × Prop)
  | [], [.str s] => some ([], .bool (valueS s), True)
  | _, _ => none
theorem tb_specValue_ok : ∀ E args E' res p, tb_specValue E args = some (E', res, p) → p → SpecE Tryz.prog 208 E args E' res := by
  intro E args E' res p h hp
  unfold tb_specValue at h
  split at h
  · simp only [Option.some.injEq, Prod.mk.injEq] at h
    obtain ⟨rfl, rfl, rfl⟩ := h
    exact (specValue _)
  · cases h
def T_specTokenR : Tbl := fun g E args => (addT nilT 51 Go.Proofs.Tryz.Oct.tb_specTcharR) g E args
theorem T_specTokenR_ok : TblOK Tryz.prog T_specTokenR := (addT_ok nilT_ok (by decide +kernel) Go.Proofs.Tryz.Oct.tb_specTcharR_ok)
set_option maxRecDepth 100000 in
set_option maxHeartbeats 4000000 in
theorem specTokenR (s : List UInt8) (h : s.length ≤ 2147483647) : SpecE Tryz.prog 22 [] [.str s] [] (.bool (tokenS s)) := by
  refine specF0 (C := T_specTokenR) (wr := false) (D := fun _ => []) (U := fun _ => none) (res := [.bool (tokenS s)]) Tryz.Ty.mixed T_specTokenR_ok Tryz.func22 (nA := 1) (by decide +kernel) rfl (fun _ => rfl) ?_
  simp only [Tryz.f22, bodyOf, rlOf]
  rw [W_V]
  simp (config := {maxSteps := 2000000}) only [T_specTokenR, Go.Proofs.Tryz.Oct.tb_specTcharR, go_sem, seval]
  (try simp (config := {maxSteps := 2000000}) only [gimp, impB, isT, go_sem, seval])
  refine VL_inv (X := Nat) (fun x => ⟨[(0, .str s), (3, .int .i64 x)], []⟩) (fun x => x ≤ s.length ∧ (s.take x).all tcharB = true) (fun x => s.length - x) 0 ?_ ?_ ?_
  · simp only [go_sem, go_sem, seval]
  · exact ⟨Nat.zero_le _, by simp⟩
  rintro x ⟨hx, hn⟩
  simp (config := {maxSteps := 2000000}) only [T_specTokenR, Go.Proofs.Tryz.Oct.tb_specTcharR, go_sem, seval]
  (try simp (config := {maxSteps := 2000000}) only [gimp, impB, isT, go_sem, seval])
  refine ⟨fun hlt => ?_, fun hge => ?_⟩
  · obtain ⟨h1, h2⟩ := all_step (p := tcharB) (s := s) (x := x) (by omega) hn
    refine ⟨by omega, fun he => ?_, fun he => ⟨by omega, x + 1, by omega, ⟨by omega, h1 (by simpa using he)⟩, by omega⟩⟩
    simp [tokenS, h2 he]
  · have : x = s.length := by omega
    subst this
    rw [List.take_length] at hn
    simp only [tokenS, hn, Bool.and_true]
    cases s <;> simp <;> omega
def tb_specTokenR : List Blk → List AV → Option (List Blk × AV × Prop)
  | [], [.str s] => some ([], .bool (tokenS s), (s.length ≤ 2147483647))
  | _, _ => none
theorem tb_specTokenR_ok : ∀ E args E' res p, tb_specTokenR E args = some (E', res, p) → p → SpecE Tryz.prog 22 E args E' res := by
  intro E args E' res p h hp
  unfold tb_specTokenR at h
  split at h
  · simp only [Option.some.injEq, Prod.mk.injEq] at h
    obtain ⟨rfl, rfl, rfl⟩ := h
    exact (specTokenR _ hp)
  · cases h
def T_specValueR : Tbl := fun g E args => nilT g E args
theorem T_specValueR_ok : TblOK Tryz.prog T_specValueR := nilT_ok
set_option maxRecDepth 100000 in
set_option maxHeartbeats 4000000 in
theorem specValueR (s : List UInt8) (h : s.length ≤ 2147483647) : SpecE Tryz.prog 219 [] [.str s] [] (.bool (valueS s)) := by
  refine specF0 (C := T_specValueR) (wr := false) (D := fun _ => []) (U := fun _ => none) (res := [.bool (valueS s)]) Tryz.Ty.mixed T_specValueR_ok Tryz.func219 (nA := 1) (by decide +kernel) rfl (fun _ => rfl) ?_
  simp only [Tryz.f219, bodyOf, rlOf]
  rw [W_V]
  simp (config := {maxSteps := 2000000}) only [T_specValueR, go_sem, seval]
  (try simp (config := {maxSteps := 2000000}) only [gimp, impB, isT, go_sem, seval])
  refine VL_inv (X := Nat) (fun x => ⟨[(0, .str s), (3, .int .i64 x)], []⟩) (fun x => x ≤ s.length ∧ (s.take x).all valueB = true) (fun x => s.length - x) 0 ?_ ?_ ?_
  · simp only [go_sem, go_sem, seval]
  · exact ⟨Nat.zero_le _, by simp⟩
  rintro x ⟨hx, hn⟩
  simp (config := {maxSteps := 2000000}) only [T_specValueR, go_sem, seval]
  (try simp (config := {maxSteps := 2000000}) only [gimp, impB, isT, go_sem, seval])
  refine ⟨fun hlt => ?_, fun hge => ?_⟩
  · obtain ⟨h1, h2⟩ := all_step (p := valueB) (s := s) (x := x) (by omega) hn
    have hv : valueB (s.getD x 0) = true ↔ s.getD x 0 = 9 ∨ 32 ≤ ((s.getD x 0).toNat : Int) ∧ s.getD x 0 ≠ 127 := by
      simp only [valueB, valueI, decide_eq_true_eq, u8_lit, Nat.reduceLT, ne_eq]
    refine ⟨by omega, ⟨fun _ => by omega, fun _ => by omega⟩, ⟨fun _ => by omega, fun _ => by omega⟩, fun he => ?_, fun he he' => ⟨by omega, x + 1, by omega, ⟨by omega, h1 ?_⟩, by omega⟩⟩
    · have : valueB (s.getD x 0) = false := by
        rw [← Bool.not_eq_true, hv]
        rcases he with ⟨e1, e2⟩ | e
        · rintro (h | ⟨h, _⟩)
          · exact e1 h
          · omega
        · rintro (h | ⟨_, h⟩)
          · rw [e] at h; exact absurd h (by decide)
          · exact h e
      exact (h2 this).symm
    · rw [hv]
      by_cases h9 : s.getD x 0 = 9
      · exact .inl h9
      · simp [h9] at he
        exact .inr ⟨by simpa using he h9, he'⟩
  · have : x = s.length := by omega
    subst this
    rw [List.take_length] at hn
    exact hn.symm
def tb_specValueR : List Blk → List AV → Option (List Blk × AV × Prop)
  | [], [.str s] => some ([], .bool (valueS s), (s.length ≤ 2147483647))
  | _, _ => none
theorem tb_specValueR_ok : ∀ E args E' res p, tb_specValueR E args = some (E', res, p) → p → SpecE Tryz.prog 219 E args E' res := by
  intro E args E' res p h hp
  unfold tb_specValueR at h
  split at h
  · simp only [Option.some.injEq, Prod.mk.injEq] at h
    obtain ⟨rfl, rfl, rfl⟩ := h
    exact (specValueR _ hp)
  · cases h
end Go.Proofs.Tryz.Oct
end
section
set_option linter.unusedVariables false
set_option linter.unusedSimpArgs false
namespace Go.Mdl
open Go Go.Abs
theorem trimL_cons {s : List UInt8} (h : 0 < s.length) (hb : blankB (s.getD 0 0) = true) : trimL (s.drop 1) = trimL s := by
  cases s with
  | nil => simp at h
  | cons a l => simp at hb; simp [trimL, hb]
theorem trimL_none {s : List UInt8} (h : 0 < s.length → blankB (s.getD 0 0) = false) : trimL s = s := by
  cases s with
  | nil => rfl
  | cons a l => have := h (by simp); simp at this; simp [trimL, this]
theorem getLast_drop {s : List UInt8} (h : 0 < s.length) : s = s.take (s.length - 1) ++ [s.getD (s.length - 1) 0] := by
  rw [← take_succ_getD 0 (by omega), List.take_of_length_le (by omega)]
theorem trimR_snoc {s : List UInt8} (h : 0 < s.length) (hb : blankB (s.getD (s.length - 1) 0) = true) : trimR (s.take (s.length - 1)) = trimR s := by
  have e := getLast_drop h
  generalize s.take (s.length - 1) = t at *
  generalize s.getD (s.length - 1) 0 = c at *
  subst e
  simp [trimR, hb]
theorem trimR_none {s : List UInt8} (h : 0 < s.length → blankB (s.getD (s.length - 1) 0) = false) : trimR s = s := by
  by_cases h0 : 0 < s.length
  · have e := getLast_drop h0
    have hb := h h0
    generalize s.take (s.length - 1) = t at *
    generalize s.getD (s.length - 1) 0 = c at *
    subst e
    simp [trimR, hb]
  · have : s = [] := List.length_eq_zero_iff.1 (by omega)
    subst this; rfl
theorem trimR_between {s : List UInt8} {x y : Nat} (hx : x < y) (hy : y ≤ s.length) (hb : blankB (s.getD (y - 1) 0) = true) : trimR ((s.take (y - 1)).drop x) = trimR ((s.take y).drop x) := by
  have h1 : ((s.take y).drop x).length = y - x := by simp; omega
  have h2 : ((s.take y).drop x).getD (y - x - 1) 0 = s.getD (y - 1) 0 := by
    simp only [List.getD_eq_getElem?_getD, List.getElem?_drop, List.getElem?_take]
    rw [if_pos (by omega), show x + (y - x - 1) = y - 1 by omega]
  have h3 : ((s.take y).drop x).take (y - x - 1) = (s.take (y - 1)).drop x := by
    rw [List.take_drop, List.take_take, show x + (y - x - 1) = y - 1 by omega, Nat.min_eq_left (by omega)]
  have := trimR_snoc (s := (s.take y).drop x) (by omega) (by rw [h1, h2]; exact hb)
  rw [h1, h3] at this
  exact this
theorem trimR_stop {s : List UInt8} {x y : Nat} (hx : x ≤ y) (hy : y ≤ s.length) (hb : x < y → blankB (s.getD (y - 1) 0) = false) : trimR ((s.take y).drop x) = (s.take y).drop x := by
  refine trimR_none (fun h => ?_)
  have h1 : ((s.take y).drop x).length = y - x := by simp; omega
  rw [h1] at h ⊢
  have h2 : ((s.take y).drop x).getD (y - x - 1) 0 = s.getD (y - 1) 0 := by
    simp only [List.getD_eq_getElem?_getD, List.getElem?_drop, List.getElem?_take]
    rw [if_pos (by omega), show x + (y - x - 1) = y - 1 by omega]
  rw [h2]; exact hb (by omega)
theorem drop_getD0 {s : List UInt8} {x : Nat} : (s.drop x).getD 0 0 = s.getD x 0 := by
  simp [List.getD_eq_getElem?_getD, List.getElem?_drop]
end Go.Mdl
end
section
set_option linter.unusedVariables false
set_option linter.unusedSimpArgs false
namespace Go.Proofs.Tryz.Oct
open Go Go.Abs Go.Proofs Go.Mdl
def T_specBlank : Tbl := fun g E args => nilT g E args
theorem T_specBlank_ok : TblOK Tryz.prog T_specBlank := nilT_ok
set_option maxRecDepth 100000 in
set_option maxHeartbeats 4000000 in
theorem specBlank (c : UInt8) : SpecE Tryz.prog 107 [] [enc_u8 c] [] (.bool (blankB c)) := by
  refine specF0 (C := T_specBlank) (wr := false) (D := fun _ => []) (U := fun _ => none) (res := [.bool (blankB c)]) Tryz.Ty.mixed T_specBlank_ok Tryz.func107 (nA := 1) (by decide +kernel) rfl (fun _ => rfl) ?_
  simp only [Tryz.f107, bodyOf, rlOf]
  rw [W_V]
  simp (config := {maxSteps := 2000000}) only [T_specBlank, go_sem, seval]
  (try simp (config := {maxSteps := 2000000}) only [gimp, impB, isT, go_sem, seval])
  rfl
def tb_specBlank : List Blk → List AV → Option (List Blk × AV × Prop)
  | [], [a0] => some ([], .bool (blankB (dec_u8 a0)), argOK a0 (enc_u8 (dec_u8 a0)))
  | _, _ => none
theorem tb_specBlank_ok : ∀ E args E' res p, tb_specBlank E args = some (E', res, p) → p → SpecE Tryz.prog 107 E args E' res := by
  intro E args E' res p h hp
  unfold tb_specBlank at h
  split at h
  · simp only [Option.some.injEq, Prod.mk.injEq] at h
    obtain ⟨rfl, rfl, rfl⟩ := h
    exact SpecE.args (specBlank _) (.cons hp .nil)
  · cases h
def T_specTrim : Tbl := fun g E args => (addT nilT 107 Go.Proofs.Tryz.Oct.tb_specBlank) g E args
theorem T_specTrim_ok : TblOK Tryz.prog T_specTrim := (addT_ok nilT_ok (by decide +kernel) Go.Proofs.Tryz.Oct.tb_specBlank_ok)
set_option maxRecDepth 100000 in
set_option maxHeartbeats 4000000 in
theorem specTrim (s : List UInt8) (hs : s.length ≤ maxLen) : SpecE Tryz.prog 66 [] [.str s] [] (.str (trimS s)) := by
  refine specF0 (C := T_specTrim) (wr := false) (D := fun _ => []) (U := fun _ => none) (res := [.str (trimS s)]) Tryz.Ty.mixed T_specTrim_ok Tryz.func66 (nA := 1) (by decide +kernel) rfl (fun _ => rfl) ?_
  simp only [Tryz.f66, bodyOf, rlOf]
  rw [W_V]
  simp (config := {maxSteps := 2000000}) only [T_specTrim, Go.Proofs.Tryz.Oct.tb_specBlank, go_sem, seval]
  (try simp (config := {maxSteps := 2000000}) only [gimp, impB, isT, go_sem, seval])
  refine VL_inv (X := Nat) (fun x => ⟨[(0, .str s), (3, .int .i64 x), (4, .int .i64 s.length)], []⟩) (fun x => x ≤ s.length ∧ trimL (s.drop x) = trimL s) (fun x => s.length - x) 0 ?_ ?_ ?_
  · simp only [go_sem, go_sem, seval]
    try rfl
  · exact ⟨Nat.zero_le _, by simp⟩
  rintro x ⟨hx, hn⟩
  have hm : s.length ≤ 9223372036854775807 := hs
  simp (config := {maxSteps := 2000000}) only [T_specTrim, Go.Proofs.Tryz.Oct.tb_specBlank, go_sem, seval]
  (try simp (config := {maxSteps := 2000000}) only [gimp, impB, isT, go_sem, seval])
  refine ⟨fun _ => by omega, fun h1 h2 => ⟨by omega, x + 1, by omega, ⟨by omega, ?_⟩, by omega⟩, fun h => ?_⟩
  · rw [← hn]
    have := trimL_cons (s := s.drop x) (by simp; omega) (by rw [drop_getD0]; exact h2)
    rw [← this, List.drop_drop]
  have hstop : trimL s = s.drop x := by
    rw [← hn]
    refine trimL_none (fun hl => ?_)
    rw [drop_getD0]
    simp at hl
    simpa [show (x : Int) < s.length by omega] using h
  refine VL_inv (X := Nat) (fun y => ⟨[(0, .str s), (3, .int .i64 x), (4, .int .i64 y)], []⟩) (fun y => x ≤ y ∧ y ≤ s.length ∧ trimR ((s.take y).drop x) = trimS s) (fun y => y - x) s.length ?_ ?_ ?_
  · simp only [go_sem, go_sem, seval]
    try rfl
  · refine ⟨hx, Nat.le_refl _, ?_⟩
    rw [List.take_length, trimS, hstop]
  rintro y ⟨h1, h2, h3⟩
  simp (config := {maxSteps := 2000000}) only [T_specTrim, Go.Proofs.Tryz.Oct.tb_specBlank, go_sem, seval]
  (try simp (config := {maxSteps := 2000000}) only [gimp, impB, isT, go_sem, seval])
  refine ⟨⟨fun _ => by omega, fun _ => by omega⟩, ⟨fun _ => by omega, fun _ => by omega⟩, fun hlt hb => ⟨by omega, y - 1, by omega, ⟨by omega, by omega, ?_⟩, by omega⟩, fun hb => ⟨by omega, ?_⟩⟩
  · rw [trimR_between (by omega) h2 hb]; exact h3
  · rw [← h3]
    refine (trimR_stop h1 h2 (fun hlt => ?_)).symm
    simpa [show (x : Int) < y by omega] using hb
def tb_specTrim : List Blk → List AV → Option (List Blk × AV × Prop)
  | [], [.str s] => some ([], .str (trimS s), (s.length ≤ maxLen))
  | _, _ => none
theorem tb_specTrim_ok : ∀ E args E' res p, tb_specTrim E args = some (E', res, p) → p → SpecE Tryz.prog 66 E args E' res := by
  intro E args E' res p h hp
  unfold tb_specTrim at h
  split at h
  · simp only [Option.some.injEq, Prod.mk.injEq] at h
    obtain ⟨rfl, rfl, rfl⟩ := h
    exact (specTrim _ hp)
  · cases h
def T_specTrimR : Tbl := fun g E args => nilT g E args
theorem T_specTrimR_ok : TblOK Tryz.prog T_specTrimR := nilT_ok
set_option maxRecDepth 100000 in
set_option maxHeartbeats 4000000 in
theorem specTrimR (s : List UInt8) (hs : s.length ≤ maxLen) : SpecE Tryz.prog 50 [] [.str s] [] (.str (trimS s)) := by
  refine specF0 (C := T_specTrimR) (wr := false) (D := fun _ => []) (U := fun _ => none) (res := [.str (trimS s)]) Tryz.Ty.mixed T_specTrimR_ok Tryz.func50 (nA := 1) (by decide +kernel) rfl (fun _ => rfl) ?_
  simp only [Tryz.f50, bodyOf, rlOf]
  rw [W_V]
  simp (config := {maxSteps := 2000000}) only [T_specTrimR, go_sem, seval]
  (try simp (config := {maxSteps := 2000000}) only [gimp, impB, isT, go_sem, seval])
  have hm : s.length ≤ 9223372036854775807 := hs
  refine VL_inv (X := List UInt8) (fun t => ⟨[(0, .str t)], []⟩) (fun t => t.length ≤ s.length ∧ trimL t = trimL s) (fun t => t.length) s ?_ ?_ ?_
  · simp only [go_sem, go_sem, seval]
    try rfl
  · exact ⟨Nat.le_refl _, rfl⟩
  rintro t ⟨hx, hn⟩
  simp (config := {maxSteps := 2000000}) only [T_specTrimR, go_sem, seval]
  (try simp (config := {maxSteps := 2000000}) only [gimp, impB, isT, go_sem, seval])
  refine ⟨fun h _ => h, fun h1 h2 => ⟨by omega, _, rfl, ⟨by simp; omega, ?_⟩, by simp; omega⟩, fun h => ?_⟩
  · rw [← hn]
    exact trimL_cons (by omega) (by simpa [blankB] using h2)
  have hstop : trimL s = t := by
    rw [← hn]
    refine trimL_none (fun hl => ?_)
    simpa [blankB, hl] using h
  refine VL_inv (X := List UInt8) (fun t => ⟨[(0, .str t)], []⟩) (fun t => t.length ≤ s.length ∧ trimR t = trimS s) (fun t => t.length) t ?_ ?_ ?_
  · simp only [go_sem, go_sem, seval]
    try rfl
  · exact ⟨hx, by rw [trimS, hstop]⟩
  clear h hstop hn hx t
  rintro t ⟨hx, hn⟩
  simp (config := {maxSteps := 2000000}) only [T_specTrimR, go_sem, seval]
  (try simp (config := {maxSteps := 2000000}) only [gimp, impB, isT, go_sem, seval])
  refine ⟨⟨fun _ => by omega, fun _ => by omega⟩, ⟨fun _ => by omega, fun _ => by omega⟩, ⟨fun _ _ => by omega, fun _ _ => by omega⟩, ⟨fun _ _ => by omega, fun _ _ => by omega⟩,
    fun h1 h2 => ⟨by omega, by omega, _, rfl, ⟨by simp; omega, ?_⟩, by simp; omega⟩, fun h => ?_⟩
  · rw [← hn]
    exact trimR_snoc (by omega) (by simpa [blankB] using h2)
  · rw [← hn]
    refine (trimR_none (fun hl => ?_)).symm
    simpa [blankB, hl] using h
def tb_specTrimR : List Blk → List AV → Option (List Blk × AV × Prop)
  | [], [.str s] => some ([], .str (trimS s), (s.length ≤ maxLen))
  | _, _ => none
theorem tb_specTrimR_ok : ∀ E args E' res p, tb_specTrimR E args = some (E', res, p) → p → SpecE Tryz.prog 50 E args E' res := by
  intro E args E' res p h hp
  unfold tb_specTrimR at h
  split at h
  · simp only [Option.some.injEq, Prod.mk.injEq] at h
    obtain ⟨rfl, rfl, rfl⟩ := h
    exact (specTrimR _ hp)
  · cases h
end Go.Proofs.Tryz.Oct
end
section
set_option linter.unusedVariables false
set_option linter.unusedSimpArgs false
namespace Go.Mdl
open Go Go.Abs
theorem lowerB_nat (c : UInt8) : (lowerB c).toNat = if 65 ≤ c.toNat ∧ c.toNat ≤ 90 then c.toNat + 32 else c.toNat := by
  have := c.toNat_lt
  unfold lowerB
  split
  · rw [UInt8.toNat_add]
    show (c.toNat + 32) % 256 = _
    omega
  · rfl
def mixL (s : List UInt8) (x : Nat) : List UInt8 := lowerS (s.take x) ++ s.drop x
theorem mixL_len {s : List UInt8} {x : Nat} (h : x ≤ s.length) : (mixL s x).length = s.length := by simp [mixL, lowerS]; omega
theorem mixL_get {s : List UInt8} {x : Nat} (h : x ≤ s.length) : (mixL s x).getD x 0 = s.getD x 0 := by
  simp only [mixL, List.getD_eq_getElem?_getD]
  rw [List.getElem?_append_right (by simp [lowerS]; omega)]
  simp [lowerS, Nat.min_eq_left h]
theorem mixL_set {s : List UInt8} {x : Nat} (h : x < s.length) : (mixL s x).set x (lowerB (s.getD x 0)) = mixL s (x + 1) := by
  have e : (lowerS (s.take x)).length = x := by simp [lowerS]; omega
  simp only [mixL]
  rw [List.set_append_right _ _ (by omega), e, Nat.sub_self, List.drop_eq_getElem_cons h, List.set_cons_zero, take_succ_getD 0 h]
  simp only [lowerS, List.map_append, List.map_cons, List.map_nil, List.append_assoc, List.cons_append, List.nil_append]
theorem mixL_0 (s : List UInt8) : mixL s 0 = s := by simp [mixL, lowerS]
theorem mixL_all (s : List UInt8) : mixL s s.length = lowerS s := by simp [mixL]
theorem lowerS_len (s : List UInt8) : (lowerS s).length = s.length := by simp [lowerS]
theorem lowerS_take {s : List UInt8} {x : Nat} (h : x < s.length) : lowerS (s.take (x + 1)) = lowerS (s.take x) ++ [lowerB (s.getD x 0)] := by
  rw [take_succ_getD 0 h]; simp [lowerS]
theorem lowerS_getD {s : List UInt8} {x : Nat} (h : x < s.length) : (lowerS s).getD x 0 = lowerB (s.getD x 0) := by
  simp [lowerS, List.getD_eq_getElem?_getD, h]
def foldS (a b : List UInt8) : Bool := decide (lowerS a = lowerS b)
end Go.Mdl
namespace Go.Proofs.Tryz.Oct
open Go Go.Abs Go.Proofs Go.Mdl
def T_specLow1 : Tbl := fun g E args => nilT g E args
theorem T_specLow1_ok : TblOK Tryz.prog T_specLow1 := nilT_ok
set_option maxRecDepth 100000 in
set_option maxHeartbeats 4000000 in
theorem specLow1 (c : UInt8) : SpecE Tryz.prog 72 [] [enc_u8 c] [] (enc_u8 (lowerB c)) := by
  refine specF0 (C := T_specLow1) (wr := false) (D := fun _ => []) (U := fun _ => none) (res := [enc_u8 (lowerB c)]) Tryz.Ty.mixed T_specLow1_ok Tryz.func72 (nA := 1) (by decide +kernel) rfl (fun _ => rfl) ?_
  simp only [Tryz.f72, bodyOf, rlOf]
  rw [W_V]
  simp (config := {maxSteps := 2000000}) only [T_specLow1, go_sem, seval]
  (try simp (config := {maxSteps := 2000000}) only [gimp, impB, isT, go_sem, seval])
  have := c.toNat_lt
  simp only [lowerB_nat]
  (try simp only [Bool.and_eq_false_iff, Bool.or_eq_false_iff, Bool.and_eq_true, Bool.or_eq_true, decide_eq_false_iff_not, decide_eq_true_eq] at *)
  (repeat' (first | apply And.intro | intro _))
  all_goals (first | omega | ((repeat' split) <;> (first | omega | rfl | skip)))
  · unfold lowerB; rw [if_neg (by omega)]
def tb_specLow1 : List Blk → List AV → Option (List Blk × AV × Prop)
  | [], [a0] => some ([], enc_u8 (lowerB (dec_u8 a0)), argOK a0 (enc_u8 (dec_u8 a0)))
  | _, _ => none
theorem tb_specLow1_ok : ∀ E args E' res p, tb_specLow1 E args = some (E', res, p) → p → SpecE Tryz.prog 72 E args E' res := by
  intro E args E' res p h hp
  unfold tb_specLow1 at h
  split at h
  · simp only [Option.some.injEq, Prod.mk.injEq] at h
    obtain ⟨rfl, rfl, rfl⟩ := h
    exact SpecE.args (specLow1 _) (.cons hp .nil)
  · cases h
def T_specLower : Tbl := fun g E args => (addT nilT 72 Go.Proofs.Tryz.Oct.tb_specLow1) g E args
theorem T_specLower_ok : TblOK Tryz.prog T_specLower := (addT_ok nilT_ok (by decide +kernel) Go.Proofs.Tryz.Oct.tb_specLow1_ok)
set_option maxRecDepth 100000 in
set_option maxHeartbeats 4000000 in
theorem specLower (s : List UInt8) (hs : s.length ≤ maxLen) : SpecE Tryz.prog 127 [] [.str s] [] (.str (lowerS s)) := by
  refine specF0 (C := T_specLower) (wr := false) (D := fun _ => []) (U := fun _ => none) (res := [.str (lowerS s)]) Tryz.Ty.mixed T_specLower_ok Tryz.func127 (nA := 1) (by decide +kernel) rfl (fun _ => rfl) ?_
  simp only [Tryz.f127, bodyOf, rlOf]
  rw [W_V]
  simp (config := {maxSteps := 2000000}) only [T_specLower, Go.Proofs.Tryz.Oct.tb_specLow1, go_sem, seval]
  (try simp (config := {maxSteps := 2000000}) only [gimp, impB, isT, go_sem, seval])
  have hm : s.length ≤ 9223372036854775807 := hs
  refine ⟨hm, VL_inv (X := Nat) (fun x => ⟨[(3, .ref 128 0 s.length s.length), (8, .ref 128 0 s.length s.length), (9, .int .i64 s.length), (10, .int .i64 x)], [(128, .cells 1 false (.int .u8 0) ((mixL s x).map byteAV))]⟩) (fun x => x ≤ s.length) (fun x => s.length - x) 0 ?_ ?_ ?_⟩
  · simp only [go_sem, go_sem, seval, mixL_0]
    try rfl
  · exact Nat.zero_le _
  rintro x hx
  simp (config := {maxSteps := 2000000}) only [T_specLower, Go.Proofs.Tryz.Oct.tb_specLow1, go_sem, seval]
  (try simp (config := {maxSteps := 2000000}) only [gimp, impB, isT, go_sem, seval])
  have hl := mixL_len hx
  refine ⟨fun h => ?_, fun h => ?_⟩
  · have e := mixL_set (s := s) (x := x) (by omega)
    have g := mixL_get hx
    rw [Nat.zero_add]
    refine ⟨⟨by omega, by omega, by omega⟩, by omega, ⟨by omega, by omega, by omega⟩, ⟨by omega, by omega⟩, by omega, x + 1, ⟨by omega, ?_⟩, by omega, by omega⟩
    rw [g, ← e, List.map_set]; rfl
  · have : x = s.length := by omega
    subst this
    rw [mixL_all]
    refine ⟨by simp [lowerS_len], List.take_of_length_le (by simp [lowerS_len])⟩
def tb_specLower : List Blk → List AV → Option (List Blk × AV × Prop)
  | [], [.str s] => some ([], .str (lowerS s), (s.length ≤ maxLen))
  | _, _ => none
theorem tb_specLower_ok : ∀ E args E' res p, tb_specLower E args = some (E', res, p) → p → SpecE Tryz.prog 127 E args E' res := by
  intro E args E' res p h hp
  unfold tb_specLower at h
  split at h
  · simp only [Option.some.injEq, Prod.mk.injEq] at h
    obtain ⟨rfl, rfl, rfl⟩ := h
    exact (specLower _ hp)
  · cases h
def T_specLowerR : Tbl := fun g E args => nilT g E args
theorem T_specLowerR_ok : TblOK Tryz.prog T_specLowerR := nilT_ok
set_option maxRecDepth 100000 in
set_option maxHeartbeats 4000000 in
theorem specLowerR (s : List UInt8) (hs : s.length ≤ 1000000) : SpecE Tryz.prog 23 [] [.str s] [] (.str (lowerS s)) := by
  refine specF0 (C := T_specLowerR) (wr := false) (D := fun _ => []) (U := fun _ => none) (res := [.str (lowerS s)]) Tryz.Ty.mixed T_specLowerR_ok Tryz.func23 (nA := 1) (by decide +kernel) rfl (fun _ => rfl) ?_
  simp only [Tryz.f23, bodyOf, rlOf]
  rw [W_V]
  simp (config := {maxSteps := 2000000}) only [T_specLowerR, go_sem, seval]
  (try simp (config := {maxSteps := 2000000}) only [gimp, impB, isT, go_sem, seval])
  refine VL_inv (X := Nat) (fun x => ⟨[(0, .str s), (3, .ref 112 0 x x), (4, .int .i64 x)], [(112, .cells 1 false (.int .u8 0) ((lowerS (s.take x)).map byteAV))]⟩) (fun x => x ≤ s.length) (fun x => s.length - x) 0 ?_ ?_ ?_
  · simp only [go_sem, go_sem, seval]
    try rfl
  · exact Nat.zero_le _
  rintro x hx
  simp (config := {maxSteps := 2000000}) only [T_specLowerR, go_sem, seval]
  (try simp (config := {maxSteps := 2000000}) only [gimp, impB, isT, go_sem, seval])
  have hl : (lowerS (s.take x)).length = x := by simp [lowerS]; omega
  refine ⟨fun h => ?_, fun h => ?_⟩
  · have e := lowerS_take (s := s) (x := x) (by omega)
    have e2 : ∀ n : Int, n = ((lowerB (s.getD x 0)).toNat : Int) → List.map byteAV (lowerS (List.take x s)) ++ [AV.int .u8 n] = List.map byteAV (lowerS (List.take (x + 1) s)) := fun n hn => by
      rw [e, hn]; simp [byteAV]
    have := lowerB_nat (s.getD x 0)
    have := (s.getD x 0).toNat_lt
    refine ⟨⟨by omega, by omega⟩, fun h1 h2 => ⟨by omega, ⟨by omega, by omega, by omega⟩, by omega, x + 1, ⟨⟨rfl, by omega⟩, e2 _ ?_⟩, by omega, by omega⟩, fun h1 => ⟨⟨by omega, by omega, by omega⟩, by omega, x + 1, ⟨⟨rfl, by omega⟩, e2 _ ?_⟩, by omega, by omega⟩⟩
    · simp only [lowerB_nat]; rw [if_pos ⟨by omega, by omega⟩]; omega
    · simp only [Bool.and_eq_false_iff, decide_eq_false_iff_not] at h1
      simp only [lowerB_nat]; rw [if_neg (by omega)]
  · have : x = s.length := by omega
    subst this
    rw [List.take_length] at hl ⊢
    exact ⟨hl.symm, List.take_of_length_le (by omega)⟩
def tb_specLowerR : List Blk → List AV → Option (List Blk × AV × Prop)
  | [], [.str s] => some ([], .str (lowerS s), (s.length ≤ 1000000))
  | _, _ => none
theorem tb_specLowerR_ok : ∀ E args E' res p, tb_specLowerR E args = some (E', res, p) → p → SpecE Tryz.prog 23 E args E' res := by
  intro E args E' res p h hp
  unfold tb_specLowerR at h
  split at h
  · simp only [Option.some.injEq, Prod.mk.injEq] at h
    obtain ⟨rfl, rfl, rfl⟩ := h
    exact (specLowerR _ hp)
  · cases h
def T_specFold : Tbl := fun g E args => (addT nilT 72 Go.Proofs.Tryz.Oct.tb_specLow1) g E args
theorem T_specFold_ok : TblOK Tryz.prog T_specFold := (addT_ok nilT_ok (by decide +kernel) Go.Proofs.Tryz.Oct.tb_specLow1_ok)
set_option maxRecDepth 100000 in
set_option maxHeartbeats 4000000 in
theorem specFold (a b : List UInt8) (hs : a.length ≤ maxLen) : SpecE Tryz.prog 35 [] [.str a, .str b] [] (.bool (foldS a b)) := by
  refine specF0 (C := T_specFold) (wr := false) (D := fun _ => []) (U := fun _ => none) (res := [.bool (foldS a b)]) Tryz.Ty.mixed T_specFold_ok Tryz.func35 (nA := 2) (by decide +kernel) rfl (fun _ => rfl) ?_
  simp only [Tryz.f35, bodyOf, rlOf]
  rw [W_V]
  simp (config := {maxSteps := 2000000}) only [T_specFold, Go.Proofs.Tryz.Oct.tb_specLow1, go_sem, seval]
  (try simp (config := {maxSteps := 2000000}) only [gimp, impB, isT, go_sem, seval])
  refine ⟨fun h => ?_, fun h => ?_⟩
  · have : lowerS a ≠ lowerS b := fun e => h (by have := congrArg List.length e; simp only [lowerS_len] at this; omega)
    simp [foldS, this]
  have hl : a.length = b.length := by omega
  have hm : a.length ≤ 9223372036854775807 := hs
  refine VL_inv (X := Nat) (fun x => ⟨[(0, .str a), (1, .str b), (12, .int .i64 a.length), (13, .int .i64 x)], []⟩) (fun x => x ≤ a.length ∧ (lowerS a).take x = (lowerS b).take x) (fun x => a.length - x) 0 ?_ ?_ ?_
  · simp only [go_sem, go_sem, seval]
    try rfl
  · exact ⟨Nat.zero_le _, by simp⟩
  rintro x ⟨hx, hn⟩
  simp (config := {maxSteps := 2000000}) only [T_specFold, Go.Proofs.Tryz.Oct.tb_specLow1, go_sem, seval]
  (try simp (config := {maxSteps := 2000000}) only [gimp, impB, isT, go_sem, seval])
  refine ⟨fun hlt => ?_, fun hge => ?_⟩
  · have g1 := lowerS_getD (s := a) (x := x) (by omega)
    have g2 := lowerS_getD (s := b) (x := x) (by omega)
    obtain ⟨k1, k2⟩ := same_step (a := lowerS a) (b := lowerS b) (x := x) 0 (by simp only [lowerS_len]; omega) (by rw [lowerS_len]; omega) hn
    rw [g1, g2] at k1 k2
    refine ⟨by omega, by omega, fun hne => ?_, fun he => ⟨by omega, x + 1, by omega, ⟨by omega, k1 he⟩, by omega⟩⟩
    simp [foldS, k2 hne]
  · have : x = a.length := by omega
    subst this
    rw [List.take_of_length_le (by simp [lowerS_len]), List.take_of_length_le (by simp [lowerS_len]; omega)] at hn
    simp [foldS, hn]
def tb_specFold : List Blk → List AV → Option (List Blk × AV × Prop)
  | [], [.str a, .str b] => some ([], .bool (foldS a b), (a.length ≤ maxLen))
  | _, _ => none
theorem tb_specFold_ok : ∀ E args E' res p, tb_specFold E args = some (E', res, p) → p → SpecE Tryz.prog 35 E args E' res := by
  intro E args E' res p h hp
  unfold tb_specFold at h
  split at h
  · simp only [Option.some.injEq, Prod.mk.injEq] at h
    obtain ⟨rfl, rfl, rfl⟩ := h
    exact (specFold _ _ hp)
  · cases h
end Go.Proofs.Tryz.Oct
end
section
set_option linter.unusedVariables false
set_option linter.unusedSimpArgs false
namespace Go.Mdl
open Go Go.Abs
theorem PostE.same {w : World} {ok : Nat → Nat → Prop} {L : Nat → Option Blk} {φ : Nat → Option Nat} {res : AV} {v : Value} (hh : HeapOK w ok L φ) (hv : R w ok L φ res v) : PostE w ok L φ w ok φ L res v :=
  ⟨Fr.refl _ _, hh, hv, Keeps.refl _ _ _ _, fun i b h => .inl ⟨i, h⟩, fun b o h => .inl h⟩
end Go.Mdl
end
section
set_option linter.unusedVariables false
set_option linter.unusedSimpArgs false
namespace Go.Mdl
open Go Go.Abs
def idxP {α : Type} (p : α → Bool) (l : List α) : Int := if l.any p = true then (l.findIdx p : Int) else -1
theorem idxP_range {α : Type} (p : α → Bool) (l : List α) : -1 ≤ idxP p l ∧ idxP p l < l.length ∨ idxP p l = -1 := by
  unfold idxP
  split
  · rename_i h
    have := List.findIdx_lt_length.2 (List.any_eq_true.1 h)
    omega
  · exact .inr rfl
theorem idxP_ge {α : Type} (p : α → Bool) (l : List α) : (0 ≤ idxP p l) ↔ l.any p = true := by
  unfold idxP
  split <;> rename_i h
  · simp [h]
  · simp [h]
theorem idxP_hit {α : Type} {p : α → Bool} {l : List α} {x : Nat} (d : α) (hx : x < l.length) (hn : (l.take x).any p = false) (hp : p (l.getD x d) = true) : idxP p l = x := by
  have hg := getD_of_lt (s := l) (d := d) hx
  have ha : l.any p = true := List.any_eq_true.2 ⟨_, List.mem_of_getElem? hg, hp⟩
  unfold idxP
  rw [if_pos ha]
  congr 1
  rw [List.findIdx_eq hx]
  have he : l[x] = l.getD x d := by rw [List.getElem?_eq_getElem hx] at hg; exact Option.some.inj hg
  refine ⟨by rw [he]; exact hp, fun j hj => ?_⟩
  rw [← Bool.not_eq_true]
  intro h
  have : (l.take x).any p = true := List.any_eq_true.2 ⟨l[j], by
    rw [List.mem_take_iff_getElem]
    exact ⟨j, by omega, rfl⟩, h⟩
  rw [hn] at this; cases this
theorem idxP_none {α : Type} {p : α → Bool} {l : List α} (hn : l.any p = false) : idxP p l = -1 := by simp [idxP, hn]
theorem any_take_succ {α : Type} {p : α → Bool} {l : List α} {k : Nat} (d : α) (h : k < l.length) (hn : (l.take k).any p = false) : (l.take (k + 1)).any p = p (l.getD k d) := by
  rw [take_succ_getD d h, List.any_append, hn]; simp
theorem any_hit {α : Type} {p : α → Bool} {l : List α} {k : Nat} (d : α) (h : k < l.length) (hp : p (l.getD k d) = true) : l.any p = true :=
  List.any_eq_true.2 ⟨_, List.mem_of_getElem? (getD_of_lt (s := l) (d := d) h), hp⟩
theorem idxP_some {α : Type} {p : α → Bool} {l : List α} (d : α) (h : idxP p l ≠ -1) : ∃ x : Nat, idxP p l = x ∧ x < l.length ∧ (l.take x).any p = false ∧ p (l.getD x d) = true := by
  unfold idxP at h ⊢
  split at h
  · rename_i ha
    have hl := List.findIdx_lt_length.2 (List.any_eq_true.1 ha)
    rw [if_pos ha]
    refine ⟨_, rfl, hl, ?_, ?_⟩
    · rw [List.any_eq_false]
      intro y hy
      obtain ⟨j, hj, rfl⟩ := List.mem_take_iff_getElem.1 hy
      have := List.not_of_lt_findIdx (p := p) (xs := l) (i := j) (by omega)
      simpa using this
    · have h1 := List.findIdx_getElem (p := p) (xs := l) (w := hl)
      have h2 := getD_of_lt (s := l) (d := d) hl
      rw [List.getElem?_eq_getElem hl] at h2
      rw [← Option.some.inj h2]; exact h1
  · exact absurd rfl h
structure BoxOK (v : List AV) : Prop where
  pids : pidsL v = []
  ren : ∀ σ, v.map (ren σ) = v
  ref : oneRef v = none
  cells : pureEl v = true
theorem boxStr (s : List UInt8) : BoxOK [.str s] := ⟨rfl, fun _ => rfl, rfl, rfl⟩
theorem boxList (n : Nat) (l : List AV) : BoxOK [.list n l] := ⟨rfl, fun _ => rfl, rfl, rfl⟩
def enc_fld (p : List UInt8 × List UInt8) : AV := .agg [.str p.1, .str p.2]
def dec_fld : AV → List UInt8 × List UInt8
  | .agg [.str a, .str b] => (a, b)
  | _ => ([], [])
theorem boxFld (p : List UInt8 × List UInt8) : BoxOK [.agg [.str p.1, .str p.2]] := ⟨rfl, fun _ => rfl, rfl, rfl⟩
theorem getD_map_fld (l : List (List UInt8 × List UInt8)) (n : Nat) : (l.map enc_fld).getD n (.agg [.str [], .str []]) = enc_fld (l.getD n ([], [])) := by
  simp only [List.getD_eq_getElem?_getD, List.getElem?_map]; cases l[n]? <;> rfl
def enc_flds (l : List (List UInt8 × List UInt8)) : AV := .list 2 (l.map enc_fld)
def dec_flds (a : AV) : List (List UInt8 × List UInt8) := (listOf a).map dec_fld
theorem map_fld (l : List (List UInt8 × List UInt8)) : (l.map enc_fld).map dec_fld = l := by simp [List.map_map, Function.comp_def, enc_fld, dec_fld]
theorem pure_fld (p : List UInt8 × List UInt8) : pureBL (enc_fld p).cells = true := rfl
theorem pids_fld (p : List UInt8 × List UInt8) : pids (enc_fld p) = [] := rfl
theorem ren_fld (σ : Nat → Nat) (p : List UInt8 × List UInt8) : ren σ (enc_fld p) = enc_fld p := rfl
theorem ref_fld (p : List UInt8 × List UInt8) : refOf (enc_fld p) = none := rfl
theorem cells_fld (p : List UInt8 × List UInt8) : (enc_fld p).cells = [.str p.1, .str p.2] := rfl
theorem pureEl_fld (l : List (List UInt8 × List UInt8)) : pureEl (l.map enc_fld) = true := pureEl_map enc_fld l (fun _ => rfl)
theorem oneRef_fld (l : List (List UInt8 × List UInt8)) : oneRef (l.map enc_fld) = none := oneRef_map (fun _ => rfl) l
theorem pidsL_fld (l : List (List UInt8 × List UInt8)) : pidsL (l.map enc_fld) = [] := pidsL_map (fun _ => rfl) l
theorem renL_fld (σ : Nat → Nat) (l : List (List UInt8 × List UInt8)) : (l.map enc_fld).map (ren σ) = l.map enc_fld := ren_map (fun _ => rfl) l
attribute [go_sem] enc_fld pureEl_fld oneRef_fld pidsL_fld renL_fld cells_fld getD_map_fld map_fld pure_fld pids_fld ren_fld ref_fld enc_flds dec_flds
end Go.Mdl
end
section
set_option linter.unusedVariables false
set_option linter.unusedSimpArgs false
namespace Go.Mdl
open Go Go.Abs
def spanL (p : UInt8 → Bool) (s : List UInt8) : Nat := (s.takeWhile p).length
theorem spanL_le (p : UInt8 → Bool) (s : List UInt8) : spanL p s ≤ s.length := by
  have := List.takeWhile_sublist (l := s) p
  exact this.length_le
theorem takeWhile_all {α : Type} {p : α → Bool} : ∀ {l : List α}, l.all p = true → l.takeWhile p = l
  | [], _ => rfl
  | c :: r, h => by
    simp only [List.all_cons, Bool.and_eq_true] at h
    rw [List.takeWhile_cons_of_pos h.1, takeWhile_all h.2]
theorem drop_cons {s : List UInt8} {i : Nat} (h : i < s.length) : s.drop i = s.getD i 0 :: s.drop (i + 1) := by
  rw [List.drop_eq_getElem_cons h]
  simp [List.getElem?_eq_getElem h]
theorem span_step {p : UInt8 → Bool} {s : List UInt8} {x : Nat} (hx : x < s.length) (h : (s.take x).all p = true) : p (s.getD x 0) = false → spanL p s = x := by
  intro hp
  have e : s = s.take x ++ (s.getD x 0 :: s.drop (x + 1)) := by
    rw [← drop_cons hx, List.take_append_drop]
  unfold spanL
  rw [e, List.takeWhile_append_of_pos (fun y hy => List.all_eq_true.1 h y hy), List.takeWhile_cons_of_neg (by rw [hp]; simp)]
  simp; omega
theorem span_end {p : UInt8 → Bool} {s : List UInt8} (h : s.all p = true) : spanL p s = s.length := by
  unfold spanL
  rw [takeWhile_all h]
theorem span_exit {p : UInt8 → Bool} {t : List UInt8} {x : Nat} (hx : x ≤ t.length) (hn : (t.take x).all p = true) (hf : x < t.length → p (t.getD x 0) = false) : x = spanL p t := by
  by_cases hlt : x < t.length
  · exact (span_step hlt hn (hf hlt)).symm
  · have : x = t.length := by omega
    subst this
    rw [List.take_length] at hn
    exact (span_end hn).symm
def qGo : List UInt8 → List UInt8 → Nat → Option (List UInt8 × Nat)
  | [], _, _ => none
  | c :: r, acc, i =>
    if c = 34 then some (acc, i + 1)
    else if c = 92 then match r with
      | [] => none
      | d :: r' => if valueB d = true then qGo r' (acc ++ [d]) (i + 2) else none
    else if valueB c = true then qGo r (acc ++ [c]) (i + 1) else none
def qTop (s : List UInt8) : Option (List UInt8 × Nat) :=
  match s with
  | [] => none
  | c :: r => if c = 34 then qGo r [] 1 else none
def qText (s : List UInt8) : List UInt8 := match qTop s with | some (t, _) => t | none => []
def qLen (s : List UInt8) : Nat := match qTop s with | some (_, k) => k | none => 0
def qHas (s : List UInt8) : Bool := match qTop s with | some _ => true | none => false
theorem qGo_bound : ∀ (s acc : List UInt8) (i : Nat) (t : List UInt8) (k : Nat), qGo s acc i = some (t, k) → i < k ∧ k ≤ i + s.length ∧ t.length ≤ acc.length + s.length
  | [], _, _, _, _, h => by simp [qGo] at h
  | c :: r, acc, i, t, k, h => by
    unfold qGo at h
    split at h
    · simp at h; obtain ⟨rfl, rfl⟩ := h; simp
    · split at h
      · split at h
        · cases h
        · rename_i d r'
          split at h
          · have := qGo_bound _ _ _ _ _ h; simp at this ⊢; omega
          · cases h
      · split at h
        · have := qGo_bound _ _ _ _ _ h; simp at this ⊢; omega
        · cases h
theorem qGo_end {t out : List UInt8} {i j : Nat} (h : t.length ≤ i) : qGo (t.drop i) out j = none := by
  rw [List.drop_eq_nil_of_le h]; rfl
theorem qGo_quote {t out : List UInt8} {i j : Nat} (h : i < t.length) (hc : t.getD i 0 = 34) : qGo (t.drop i) out j = some (out, j + 1) := by
  rw [drop_cons h]; unfold qGo; rw [if_pos hc]
theorem qGo_slash_end {t out : List UInt8} {i j : Nat} (h : i + 1 = t.length) (hc : t.getD i 0 = 92) : qGo (t.drop i) out j = none := by
  rw [drop_cons (by omega), List.drop_eq_nil_of_le (by omega), hc]; rfl
theorem qGo_slash {t out : List UInt8} {i j : Nat} (h : i + 1 < t.length) (hc : t.getD i 0 = 92) :
    qGo (t.drop i) out j = if valueB (t.getD (i + 1) 0) = true then qGo (t.drop (i + 2)) (out ++ [t.getD (i + 1) 0]) (j + 2) else none := by
  rw [drop_cons (by omega), drop_cons h, hc, qGo.eq_def]
  rfl
theorem qGo_plain {t out : List UInt8} {i j : Nat} (h : i < t.length) (h1 : t.getD i 0 ≠ 34) (h2 : t.getD i 0 ≠ 92) :
    qGo (t.drop i) out j = if valueB (t.getD i 0) = true then qGo (t.drop (i + 1)) (out ++ [t.getD i 0]) (j + 1) else none := by
  rw [drop_cons h, qGo.eq_def]
  simp only [if_neg h1, if_neg h2]
theorem one_of {s : List UInt8} {i : Nat} (h : i < s.length) : (s.take (i + 1)).drop i = [s.getD i 0] := by
  rw [take_succ_getD 0 h, List.drop_append_of_le_length (by simp; omega), List.drop_eq_nil_of_le (by simp; omega)]
  rfl
theorem one_of2 {s : List UInt8} {i : Nat} (h : i + 1 < s.length) : (s.take (i + 2)).drop (i + 1) = [s.getD (i + 1) 0] := one_of h
theorem qTop_no {t : List UInt8} (h : t = [] ∨ ¬ t.getD 0 0 = 34) : qTop t = none := by
  cases t with
  | nil => rfl
  | cons c r =>
    simp at h
    simp [qTop, h]
theorem qTop_yes {t : List UInt8} (h : ¬ t = []) (hc : t.getD 0 0 = 34) : qTop t = qGo (t.drop 1) [] 1 := by
  cases t with
  | nil => exact absurd rfl h
  | cons c r =>
    simp at hc
    simp [qTop, hc]
theorem q_none {t : List UInt8} (h : qTop t = none) : qText t = [] ∧ qHas t = false ∧ qLen t = 0 := by simp [qText, qHas, qLen, h]
theorem q_some {t out : List UInt8} {k : Nat} (h : qTop t = some (out, k)) : qText t = out ∧ qHas t = true ∧ qLen t = k := by simp [qText, qHas, qLen, h]
theorem valueS_one (c : UInt8) : valueS [c] = valueB c := by simp [valueS]
theorem qTop_bound {t out : List UInt8} {k : Nat} (h : qTop t = some (out, k)) : 0 < k ∧ k ≤ t.length := by
  cases t with
  | nil => simp [qTop] at h
  | cons c r =>
    simp only [qTop] at h
    split at h
    · have := qGo_bound _ _ _ _ _ h; simp; omega
    · cases h
theorem qLen_le (t : List UInt8) : qLen t ≤ t.length := by
  unfold qLen
  split
  · rename_i h; exact (qTop_bound h).2
  · omega
theorem qHas_len (t : List UInt8) : qHas t = decide (0 < (qLen t : Int)) := by
  unfold qLen qHas
  cases h : qTop t with
  | none => rfl
  | some x =>
    obtain ⟨o, k⟩ := x
    have := (qTop_bound h).1
    simp; omega
end Go.Mdl
end
section
set_option linter.unusedVariables false
set_option linter.unusedSimpArgs false
namespace Go.Mdl
open Go Go.Abs
structure Scan where
  q : Bool
  s : Bool
  d : Nat
def scan0 : Scan := ⟨false, false, 0⟩
def Scan.closed (x : Scan) : Bool := !x.q && (!x.s && decide (x.d = 0))
def Scan.see (x : Scan) (c : UInt8) : Scan :=
  if x.s = true then ⟨x.q, false, x.d⟩
  else if c = 92 then ⟨x.q, x.q || decide (0 < x.d), x.d⟩
  else if x.q = true then ⟨!decide (c = 34), x.s, x.d⟩
  else if c = 40 then ⟨x.q, x.s, x.d + 1⟩
  else if 0 < x.d ∧ c = 41 then ⟨x.q, x.s, x.d - 1⟩
  else if x.d = 0 ∧ c = 34 then ⟨true, x.s, x.d⟩
  else x
def Scan.run (x : Scan) (l : List UInt8) : Scan := l.foldl Scan.see x
theorem Scan.run_append (x : Scan) (l r : List UInt8) : x.run (l ++ r) = (x.run l).run r := by simp [Scan.run]
theorem Scan.run_cons (x : Scan) (c : UInt8) (r : List UInt8) : x.run (c :: r) = (x.see c).run r := rfl
theorem Scan.see_d (x : Scan) (c : UInt8) : (x.see c).d ≤ x.d + 1 := by
  simp only [Scan.see]
  (repeat' split) <;> simp <;> omega
theorem Scan.run_d : ∀ (l : List UInt8) (x : Scan), (x.run l).d ≤ x.d + l.length
  | [], x => by simp [Scan.run]
  | c :: r, x => by
    have h1 := Scan.run_d r (x.see c)
    have h2 := Scan.see_d x c
    show ((x.see c).run r).d ≤ _
    simp only [List.length_cons]; omega
theorem Scan.run_take {s : List UInt8} {x : Nat} (h : x < s.length) (y : Scan) : y.run (s.take (x + 1)) = (y.run (s.take x)).see (s.getD x 0) := by
  rw [take_succ_getD 0 h, Scan.run, List.foldl_append]; rfl
theorem Scan.closed_iff {x : Scan} : x.closed = true ↔ x = scan0 := by
  obtain ⟨q, s, d⟩ := x
  simp only [Scan.closed, scan0, Scan.mk.injEq]
  cases q <;> cases s <;> simp
def endsS (s : List UInt8) : Bool := (scan0.run s).closed
def elemsGo : Scan → List UInt8 → List UInt8 → List (List UInt8)
  | _, cur, [] => [cur]
  | x, cur, c :: r => if c = 44 ∧ x.closed = true then cur :: elemsGo x [] r else elemsGo (x.see c) (cur ++ [c]) r
def elemsS (s : List UInt8) : List (List UInt8) := elemsGo scan0 [] s
def keepE (l : List (List UInt8)) : List (List UInt8) := (l.map trimS).filter fun e => !decide (e = [])
def splitS (s : List UInt8) : List (List UInt8) := if endsS s = true then keepE (elemsS s) else []
def hasS (s w : List UInt8) : Bool := (splitS s).any fun e => foldS e w
def joinS : List (List UInt8) → List UInt8
  | [] => []
  | [a] => a
  | a :: b :: r => a ++ (44 :: 32 :: joinS (b :: r))
theorem joinS_snoc (e : List UInt8) : ∀ l : List (List UInt8), joinS (l ++ [e]) = if l = [] then e else joinS l ++ 44 :: 32 :: e
  | [] => rfl
  | [a] => rfl
  | a :: b :: r => by
    have ih := joinS_snoc e (b :: r)
    rw [if_neg (by simp)] at ih ⊢
    show a ++ (44 :: 32 :: joinS ((b :: r) ++ [e])) = _
    rw [ih]; simp [joinS]
theorem joinS_len {m : Nat} : ∀ {l : List (List UInt8)}, (∀ e ∈ l, e.length ≤ m) → (joinS l).length ≤ l.length * (m + 2)
  | [], _ => by simp [joinS]
  | [a], h => by have := h a (by simp); simp [joinS]; omega
  | a :: b :: r, h => by
    have h1 := joinS_len (l := b :: r) (fun e he => h e (List.mem_cons_of_mem _ he))
    have h2 := h a (by simp)
    simp only [joinS, List.length_append, List.length_cons] at h1 ⊢
    rw [Nat.add_mul (r.length + 1) 1 (m + 2)]
    omega
theorem keepE_append (a b : List (List UInt8)) : keepE (a ++ b) = keepE a ++ keepE b := by simp [keepE]
def closeAt : Scan → List UInt8 → Option Nat
  | _, [] => none
  | x, c :: r => if (x.see c).closed = true then some 1 else (closeAt (x.see c) r).map (· + 1)
theorem closeAt_le : ∀ {x : Scan} {l : List UInt8} {n : Nat}, closeAt x l = some n → 1 ≤ n ∧ n ≤ l.length
  | x, [], n, h => by simp [closeAt] at h
  | x, c :: r, n, h => by
    simp only [closeAt] at h
    split at h
    · cases h; simp
    · simp only [Option.map_eq_some_iff] at h
      obtain ⟨k, hk, rfl⟩ := h
      have := closeAt_le hk
      simp; omega
theorem elemsGo_close : ∀ {x : Scan} {l : List UInt8} {n : Nat} (cur : List UInt8), (x.closed = true → l.getD 0 0 ≠ 44) → closeAt x l = some n →
    elemsGo x cur l = elemsGo scan0 (cur ++ l.take n) (l.drop n) ∧ x.run (l.take n) = scan0
  | x, [], n, cur, _, h => by simp [closeAt] at h
  | x, c :: r, n, cur, hc, h => by
    have h1 : ¬ (c = 44 ∧ x.closed = true) := fun ⟨e, h2⟩ => hc h2 (by simpa using e)
    simp only [elemsGo, if_neg h1]
    simp only [closeAt] at h
    split at h
    · rename_i h2
      cases h
      have := Scan.closed_iff.1 h2
      simp [this, Scan.run]
    · rename_i h2
      simp only [Option.map_eq_some_iff] at h
      obtain ⟨k, hk, rfl⟩ := h
      obtain ⟨g1, g2⟩ := elemsGo_close (cur ++ [c]) (fun h3 => absurd h3 h2) hk
      refine ⟨by simpa using g1, by simpa [Scan.run_cons] using g2⟩
theorem closeAt_none : ∀ {x : Scan} {l : List UInt8}, closeAt x l = none → l ≠ [] → (x.run l).closed = false
  | x, [], _, h => absurd rfl h
  | x, c :: r, h, _ => by
    simp only [closeAt] at h
    split at h
    · cases h
    · rename_i h2
      rw [Scan.run_cons]
      cases r with
      | nil => simpa [Scan.run] using h2
      | cons c' r' =>
        simp only [Option.map_eq_none_iff] at h
        exact closeAt_none h (by simp)
theorem elemsGo_len : ∀ {x : Scan} {l cur : List UInt8} {e : List UInt8}, e ∈ elemsGo x cur l → e.length ≤ cur.length + l.length
  | x, [], cur, e, h => by simp [elemsGo] at h; subst h; simp
  | x, c :: r, cur, e, h => by
    simp only [elemsGo] at h
    split at h
    · rcases List.mem_cons.1 h with h | h
      · subst h; simp
      · have := elemsGo_len h; simp at this ⊢; omega
    · have := elemsGo_len h; simp at this ⊢; omega
theorem elemsS_len {s e : List UInt8} (h : e ∈ elemsS s) : e.length ≤ s.length := by
  have := elemsGo_len h; simpa using this
theorem getD_len {n m : Nat} {l : List (List UInt8)} (h : ∀ e ∈ l, e.length ≤ m) : (l.getD n []).length ≤ m := by
  rcases Nat.lt_or_ge n l.length with h1 | h1
  · have := getD_of_lt (s := l) (d := []) h1
    exact h _ (List.mem_of_getElem? this)
  · rw [List.getD_eq_getElem?_getD, List.getElem?_eq_none h1]; simp
theorem trimL_len (s : List UInt8) : (trimL s).length ≤ s.length := (List.dropWhile_sublist _).length_le
theorem trimS_len (s : List UInt8) : (trimS s).length ≤ s.length := by
  have h1 := trimL_len s
  have h2 : (trimR (trimL s)).length ≤ (trimL s).length := by
    have := (List.dropWhile_sublist blankB (l := (trimL s).reverse)).length_le
    simpa [trimR] using this
  exact Nat.le_trans h2 h1
theorem keepE_mem {l : List (List UInt8)} {e : List UInt8} : e ∈ keepE l ↔ ∃ a ∈ l, e = trimS a ∧ e ≠ [] := by
  simp only [keepE, List.mem_filter, List.mem_map, Bool.not_eq_true', decide_eq_false_iff_not]
  constructor
  · rintro ⟨⟨a, ha, rfl⟩, h⟩; exact ⟨a, ha, rfl, h⟩
  · rintro ⟨a, ha, rfl, h⟩; exact ⟨⟨a, ha, rfl⟩, h⟩
theorem keepE_le (l : List (List UInt8)) : (keepE l).length ≤ l.length := by
  have := List.length_filter_le (fun e => !decide (e = [])) (l.map trimS)
  simpa [keepE] using this
theorem keepE_one {a : List UInt8} : keepE [a] = if trimS a = [] then [] else [trimS a] := by
  by_cases h : trimS a = [] <;> simp [keepE, h]
theorem splitS_mem {s e : List UInt8} (h : e ∈ splitS s) : e.length ≤ s.length ∧ e ≠ [] := by
  unfold splitS at h
  split at h
  · obtain ⟨a, ha, rfl, h1⟩ := keepE_mem.1 h
    exact ⟨Nat.le_trans (trimS_len a) (elemsS_len ha), h1⟩
  · simp at h
theorem elemsGo_count : ∀ (x : Scan) (l cur : List UInt8), (elemsGo x cur l).length ≤ l.length + 1
  | x, [], cur => by simp [elemsGo]
  | x, c :: r, cur => by
    simp only [elemsGo]
    split
    · have := elemsGo_count x r []; simp; omega
    · have := elemsGo_count (x.see c) r (cur ++ [c]); simp; omega
theorem splitS_count (s : List UInt8) : (splitS s).length ≤ s.length + 1 := by
  unfold splitS
  split
  · exact Nat.le_trans (keepE_le _) (elemsGo_count scan0 s [])
  · simp
theorem elemsGo_cons {x : Scan} {cur : List UInt8} {c : UInt8} {r : List UInt8} : elemsGo x cur (c :: r) = if c = 44 ∧ x.closed = true then cur :: elemsGo x [] r else elemsGo (x.see c) (cur ++ [c]) r := rfl
theorem see_top {c : UInt8} (h1 : c ≠ 34) (h2 : c ≠ 40) : scan0.see c = scan0 := by
  simp only [Scan.see, scan0]
  by_cases h : c = 92
  · simp [h]
  · simp [h, h1, h2]
def rangeIn : Code → Option (Array Tmp × Code × Code)
  | .seq a b => match rangeIn a with | some r => some r | none => rangeIn b
  | .cond _ t f => match rangeIn t with | some r => some r | none => rangeIn f
  | .block _ b => rangeIn b
  | .loop b => rangeIn b
  | .rangeFunc _ ps A B => some (ps, A, B)
  | _ => none
def lcOf (fn : Func) (n : Nat) : LoopC := match rangeIn (bodyOf fn) with
  | some (ps, A, B) => ⟨ps, A, B, n⟩
  | none => ⟨#[], .skip, .skip, n⟩
end Go.Mdl
end
section
set_option linter.unusedVariables false
set_option linter.unusedSimpArgs false
namespace Go.Proofs.Tryz.Slc
open Go Go.Abs Go.Proofs Go.Mdl
def tbP_S (sz : Nat) (z : AV) (v : List AV) (p : List UInt8 → Bool) (q : List UInt8 → Prop) : List Blk → List AV → Option (List Blk × AV × Prop)
  | [.cells sz' false z' v'], [a, .ptr 0 0 0 1] => some ([.cells sz' false z' v'], .bool (p (toStr a)), sz' = sz ∧ z' = z ∧ v' = v ∧ a = AV.str (toStr a) ∧ q (toStr a))
  | _, _ => none
theorem tbP_S_ok {f : FuncId} {sz : Nat} {z : AV} {v : List AV} {p : List UInt8 → Bool} {q : List UInt8 → Prop} (hs : ∀ x, q x → SpecE Tryz.prog f [.cells sz false z v] [AV.str x, .ptr 0 0 0 1] [.cells sz false z v] (.bool (p x))) :
    ∀ E args E' res q', tbP_S sz z v p q E args = some (E', res, q') → q' → SpecE Tryz.prog f E args E' res := by
  intro E args E' res q' h hq
  unfold tbP_S at h
  split at h
  · rename_i sz' z' v' a
    simp only [Option.some.injEq, Prod.mk.injEq] at h
    obtain ⟨rfl, rfl, rfl⟩ := h
    obtain ⟨rfl, rfl, rfl, h1, h2⟩ := hq
    have := hs _ h2
    rw [← h1] at this; exact this
  · cases h
theorem idx_S {f : FuncId} (hy : ¬ f = 1000000) {sz : Nat} {z : AV} {v : List AV} (hv : BoxOK v) (hz : ∀ σ, ren σ z = z) {p : List UInt8 → Bool} {q : List UInt8 → Prop} (hs : ∀ x, q x → SpecE Tryz.prog f [.cells sz false z v] [AV.str x, .ptr 0 0 0 1] [.cells sz false z v] (.bool (p x)))
    (l : List (List UInt8)) (hq : ∀ x ∈ l, q x) (hl : l.length ≤ maxLen) :
    SpecE Tryz.prog 165 [.cells sz false z v] [.list 1 (l.map AV.str), .clo f 0 [.ptr 0 0 0 1]] [.cells sz false z v] (.int .i64 (idxP p l)) := by
  refine specFE (C := addT nilT f (tbP_S sz z v p q)) (wr := false) (D := fun _ => []) (U := fun _ => none) (E := [.cells sz false z v]) (E' := [.cells sz false z v]) (res := [.int .i64 (idxP p l)]) [] Tryz.Ty.mixed (addT_ok nilT_ok (by simp) (tbP_S_ok hs)) Tryz.func165 (nE := 1) (nA := 2) (by decide +kernel) rfl rfl ?_
  simp only [Tryz.f165, bodyOf, rlOf]
  rw [W_V]
  have hm : l.length ≤ 9223372036854775807 := hl
  obtain ⟨v1, v2, v3, v4⟩ := hv
  have v5 : ∀ L, contOK L v = True := fun L => contOK_pure v4
  simp only [tbP_S, hy, hz, v1, v2, v3, v5, go_sem, go_sem, seval, true_and]
  refine VL_inv (X := Nat) (fun k => ⟨[(0, .list 1 (l.map AV.str)), (1, .clo f 0 [.ptr 0 0 0 1]), (7, .int .i64 l.length), (8, .int .i64 k)], [(0, .cells sz false z v)]⟩) (fun k => k ≤ l.length ∧ (l.take k).any p = false) (fun k => l.length - k) 0 ?_ ?_ ?_
  · simp only [tbP_S, hy, hz, v1, v2, v3, v5, go_sem, go_sem, seval]
    try rfl
  · exact ⟨Nat.zero_le _, by simp⟩
  rintro k ⟨hk, hn⟩
  simp only [tbP_S, hy, hz, v1, v2, v3, v5, go_sem, go_sem, seval, true_and, toStr]
  refine ⟨fun hlt => ⟨by omega, hq _ (List.mem_of_getElem? (getD_of_lt (s := l) (i := k) (d := []) (by omega))), fun hp => (idxP_hit [] (by omega) hn hp).symm, fun hp => ⟨by omega, k + 1, by omega, ⟨by omega, by rw [any_take_succ [] (by omega) hn]; exact hp⟩, by omega⟩⟩, fun hge => ?_⟩
  have : k = l.length := by omega
  subst this
  rw [List.take_length] at hn
  exact (idxP_none hn).symm
def tbI_S (sz : Nat) (z : AV) (v : List AV) (f : FuncId) (p : List UInt8 → Bool) (l : List (List UInt8)) : List Blk → List AV → Option (List Blk × AV × Prop)
  | [.cells sz' false z' v'], [.list n l', .clo f' 0 [.ptr 0 0 0 1]] => some ([.cells sz' false z' v'], .int .i64 (idxP p l), sz' = sz ∧ z' = z ∧ v' = v ∧ n = 1 ∧ l' = l.map AV.str ∧ f' = f)
  | _, _ => none
theorem has_S {f : FuncId} (hy : ¬ f = 1000000) {sz : Nat} {z : AV} {v : List AV} (hv : BoxOK v) (hz : ∀ σ, ren σ z = z) {p : List UInt8 → Bool} {q : List UInt8 → Prop} (hs : ∀ x, q x → SpecE Tryz.prog f [.cells sz false z v] [AV.str x, .ptr 0 0 0 1] [.cells sz false z v] (.bool (p x)))
    (l : List (List UInt8)) (hq : ∀ x ∈ l, q x) (hl : l.length ≤ maxLen) :
    SpecE Tryz.prog 125 [.cells sz false z v] [.list 1 (l.map AV.str), .clo f 0 [.ptr 0 0 0 1]] [.cells sz false z v] (.bool (l.any p)) := by
  have ht : ∀ E args E' res q', tbI_S sz z v f p l E args = some (E', res, q') → q' → SpecE Tryz.prog 165 E args E' res := by
    intro E args E' res q' h hq'
    unfold tbI_S at h
    split at h
    · simp only [Option.some.injEq, Prod.mk.injEq] at h
      obtain ⟨rfl, rfl, rfl⟩ := h
      obtain ⟨rfl, rfl, rfl, rfl, rfl, rfl⟩ := hq'
      exact idx_S hy hv hz hs l hq hl
    · cases h
  refine specFE (C := addT nilT 165 (tbI_S sz z v f p l)) (wr := false) (D := fun _ => []) (U := fun _ => none) (E := [.cells sz false z v]) (E' := [.cells sz false z v]) (res := [.bool (l.any p)]) [] Tryz.Ty.mixed (addT_ok nilT_ok (by decide +kernel) ht) Tryz.func125 (nE := 1) (nA := 2) (by decide +kernel) rfl rfl ?_
  simp only [Tryz.f125, bodyOf, rlOf]
  rw [W_V]
  obtain ⟨v1, v2, v3, v4⟩ := hv
  have v5 : ∀ L, contOK L v = True := fun L => contOK_pure v4
  simp only [tbI_S, hz, v1, v2, v3, v5, go_sem, go_sem, seval, true_and]
  rw [Bool.eq_iff_iff, decide_eq_true_eq, idxP_ge]
def tbP_F (sz : Nat) (z : AV) (v : List AV) (p : List UInt8 × List UInt8 → Bool) (q : List UInt8 × List UInt8 → Prop) : List Blk → List AV → Option (List Blk × AV × Prop)
  | [.cells sz' false z' v'], [a, .ptr 0 0 0 1] => some ([.cells sz' false z' v'], .bool (p (dec_fld a)), sz' = sz ∧ z' = z ∧ v' = v ∧ a = enc_fld (dec_fld a) ∧ q (dec_fld a))
  | _, _ => none
theorem tbP_F_ok {f : FuncId} {sz : Nat} {z : AV} {v : List AV} {p : List UInt8 × List UInt8 → Bool} {q : List UInt8 × List UInt8 → Prop} (hs : ∀ x, q x → SpecE Tryz.prog f [.cells sz false z v] [enc_fld x, .ptr 0 0 0 1] [.cells sz false z v] (.bool (p x))) :
    ∀ E args E' res q', tbP_F sz z v p q E args = some (E', res, q') → q' → SpecE Tryz.prog f E args E' res := by
  intro E args E' res q' h hq
  unfold tbP_F at h
  split at h
  · rename_i sz' z' v' a
    simp only [Option.some.injEq, Prod.mk.injEq] at h
    obtain ⟨rfl, rfl, rfl⟩ := h
    obtain ⟨rfl, rfl, rfl, h1, h2⟩ := hq
    have := hs _ h2
    rw [← h1] at this; exact this
  · cases h
theorem idx_F {f : FuncId} (hy : ¬ f = 1000000) {sz : Nat} {z : AV} {v : List AV} (hv : BoxOK v) (hz : ∀ σ, ren σ z = z) {p : List UInt8 × List UInt8 → Bool} {q : List UInt8 × List UInt8 → Prop} (hs : ∀ x, q x → SpecE Tryz.prog f [.cells sz false z v] [enc_fld x, .ptr 0 0 0 1] [.cells sz false z v] (.bool (p x)))
    (l : List (List UInt8 × List UInt8)) (hq : ∀ x ∈ l, q x) (hl : l.length ≤ maxLen) :
    SpecE Tryz.prog 168 [.cells sz false z v] [.list 2 (l.map enc_fld), .clo f 0 [.ptr 0 0 0 1]] [.cells sz false z v] (.int .i64 (idxP p l)) := by
  refine specFE (C := addT nilT f (tbP_F sz z v p q)) (wr := false) (D := fun _ => []) (U := fun _ => none) (E := [.cells sz false z v]) (E' := [.cells sz false z v]) (res := [.int .i64 (idxP p l)]) [] Tryz.Ty.mixed (addT_ok nilT_ok (by simp) (tbP_F_ok hs)) Tryz.func168 (nE := 1) (nA := 2) (by decide +kernel) rfl rfl ?_
  simp only [Tryz.f168, bodyOf, rlOf]
  rw [W_V]
  have hm : l.length ≤ 9223372036854775807 := hl
  obtain ⟨v1, v2, v3, v4⟩ := hv
  have v5 : ∀ L, contOK L v = True := fun L => contOK_pure v4
  simp only [tbP_F, hy, hz, v1, v2, v3, v5, go_sem, go_sem, seval, true_and]
  refine VL_inv (X := Nat) (fun k => ⟨[(0, .list 2 (l.map enc_fld)), (1, .clo f 0 [.ptr 0 0 0 1]), (7, .int .i64 l.length), (8, .int .i64 k)], [(0, .cells sz false z v)]⟩) (fun k => k ≤ l.length ∧ (l.take k).any p = false) (fun k => l.length - k) 0 ?_ ?_ ?_
  · simp only [tbP_F, hy, hz, v1, v2, v3, v5, go_sem, go_sem, seval]
    try rfl
  · exact ⟨Nat.zero_le _, by simp⟩
  rintro k ⟨hk, hn⟩
  simp only [tbP_F, hy, hz, v1, v2, v3, v5, go_sem, go_sem, seval, true_and, enc_fld, dec_fld]
  refine ⟨fun hlt => ⟨by omega, hq _ (List.mem_of_getElem? (getD_of_lt (s := l) (i := k) (d := ([], [])) (by omega))), fun hp => (idxP_hit ([], []) (by omega) hn hp).symm, fun hp => ⟨by omega, k + 1, by omega, ⟨by omega, by rw [any_take_succ ([], []) (by omega) hn]; exact hp⟩, by omega⟩⟩, fun hge => ?_⟩
  have : k = l.length := by omega
  subst this
  rw [List.take_length] at hn
  exact (idxP_none hn).symm
end Go.Proofs.Tryz.Slc
end
section
set_option linter.unusedVariables false
set_option linter.unusedSimpArgs false
namespace Go.Mdl
open Go Go.Abs
def behindI (s : List UInt8) (at' : Nat) : Int := match closeAt scan0 (s.drop at') with | some n => ((at' + n : Nat) : Int) | none => -1
theorem closeAt_cons (x : Scan) (c : UInt8) (r : List UInt8) : closeAt x (c :: r) = if (x.see c).closed = true then some 1 else (closeAt (x.see c) r).map (· + 1) := rfl
theorem behind_of {s : List UInt8} {a i : Nat} {x : Scan} (h : closeAt scan0 (s.drop a) = (closeAt x (s.drop i)).map (· + (i - a))) (ha : a ≤ i) :
    (closeAt x (s.drop i) = some 1 → behindI s a = ((i + 1 : Nat) : Int)) ∧ (closeAt x (s.drop i) = none → behindI s a = -1) := by
  refine ⟨fun h1 => ?_, fun h1 => ?_⟩
  · rw [h1] at h; simp only [behindI, h, Option.map_some]; omega
  · rw [h1] at h; simp only [behindI, h, Option.map_none]
theorem behind_step {s : List UInt8} {a i : Nat} {x : Scan} (h : closeAt scan0 (s.drop a) = (closeAt x (s.drop i)).map (· + (i - a))) (ha : a ≤ i) (hi : i < s.length) (hc : (x.see (s.getD i 0)).closed = false) :
    closeAt scan0 (s.drop a) = (closeAt (x.see (s.getD i 0)) (s.drop (i + 1))).map (· + (i + 1 - a)) := by
  rw [h, drop_cons hi, closeAt_cons, if_neg (by rw [hc]; simp), Option.map_map]
  congr 1
  funext n
  simp only [Function.comp]; omega
theorem behind_end {s : List UInt8} {a i : Nat} {x : Scan} (h : closeAt scan0 (s.drop a) = (closeAt x (s.drop i)).map (· + (i - a))) (ha : a ≤ i) (hi : s.length ≤ i) : behindI s a = -1 :=
  (behind_of h ha).2 (by rw [List.drop_eq_nil_of_le hi]; rfl)
theorem behind_close {s : List UInt8} {a i : Nat} {x : Scan} (h : closeAt scan0 (s.drop a) = (closeAt x (s.drop i)).map (· + (i - a))) (ha : a ≤ i) (hi : i < s.length) (hc : (x.see (s.getD i 0)).closed = true) : behindI s a = ((i + 1 : Nat) : Int) :=
  (behind_of h ha).1 (by rw [drop_cons hi, closeAt_cons, if_pos hc])
theorem behindI_lt {s : List UInt8} {a : Nat} {n : Nat} (h : behindI s a = (n : Int)) : ∃ k, closeAt scan0 (s.drop a) = some k ∧ n = a + k ∧ 1 ≤ k ∧ a + k ≤ s.length := by
  unfold behindI at h
  cases hc : closeAt scan0 (s.drop a) with
  | none => rw [hc] at h; simp only at h; omega
  | some k =>
    rw [hc] at h; simp only at h
    have := closeAt_le hc
    rw [List.length_drop] at this
    exact ⟨k, rfl, by omega, by omega, by omega⟩
end Go.Mdl
namespace Go.Proofs.Tryz.Lists
open Go Go.Abs Go.Proofs Go.Mdl
def T_specBehind : Tbl := fun g E args => nilT g E args
theorem T_specBehind_ok : TblOK Tryz.prog T_specBehind := nilT_ok
set_option maxRecDepth 100000 in
set_option maxHeartbeats 4000000 in
theorem specBehind (s : List UInt8) (a : Nat) (hs : s.length ≤ 100000000) (ha : a < s.length) (hc : s.getD a 0 = 34 ∨ s.getD a 0 = 40) : SpecE Tryz.prog 49 [] [.str s, .int .i64 (a : Int)] [] (.int .i64 (behindI s a)) := by
  refine specF0 (C := T_specBehind) (wr := false) (D := fun _ => []) (U := fun _ => none) (res := [.int .i64 (behindI s a)]) Tryz.Ty.mixed T_specBehind_ok Tryz.func49 (nA := 2) (by decide +kernel) rfl (fun _ => rfl) ?_
  simp only [Tryz.f49, bodyOf, rlOf]
  rw [W_V]
  simp (config := {maxSteps := 2000000}) only [T_specBehind, go_sem, seval]
  (try simp (config := {maxSteps := 2000000}) only [gimp, impB, isT, go_sem, seval])
  refine ⟨by omega, ?_⟩
  refine VL_inv (X := Nat × Scan) (fun y => ⟨[(0, .str s), (1, .int .i64 a), (5, .bool (decide (s.getD a 0 = 34))), (6, .int .i64 y.2.d), (7, .int .i64 y.1)], []⟩)
    (fun y => a ≤ y.1 ∧ y.1 ≤ s.length + 1 ∧ y.2.d ≤ y.1 ∧ (y.1 = a → y.2 = scan0) ∧ (a < y.1 → y.2.s = false ∧ y.2.q = decide (s.getD a 0 = 34) ∧ (y.2.q = true ↔ y.2.d = 0)) ∧ closeAt scan0 (s.drop a) = (closeAt y.2 (s.drop y.1)).map (· + (y.1 - a))) (fun y => s.length + 1 - y.1) (a, scan0) ?_ ?_ ?_
  · simp only [go_sem, go_sem, seval]
    try rfl
  · refine ⟨Nat.le_refl _, by simp only; omega, Nat.zero_le _, fun _ => rfl, fun h => absurd h (Nat.lt_irrefl _), ?_⟩
    simp
  rintro ⟨i, x⟩ ⟨i1, i2, i3, i4, i5, i6⟩
  simp only at i1 i2 i3 i4 i5 i6
  simp (config := {maxSteps := 2000000}) only [T_specBehind, go_sem, seval]
  (try simp (config := {maxSteps := 2000000}) only [gimp, impB, isT, go_sem, seval])
  have hia : i = a → s.getD i 0 = s.getD a 0 := fun h => by rw [h]
  generalize s.getD a 0 = c0 at *
  have open' : a < i → x = ⟨decide (c0 = 34), false, x.d⟩ ∧ (c0 = 34 ↔ x.d = 0) := fun h => by
    obtain ⟨h1, h2, h3⟩ := i5 h
    refine ⟨by rw [← h1, ← h2], ?_⟩
    rw [h2, decide_eq_true_eq] at h3; exact h3
  have at0 : i = a → x.d = 0 := fun h => by rw [i4 h]; rfl
  (repeat' (first | refine And.intro ?_ ?_ | intro _))
  all_goals (try first | omega | assumption | contradiction)
  · rename_i h1 h2
    have hai : a < i := by
      rcases Nat.lt_or_ge a i with h | h
      · exact h
      · have e := hia (by omega)
        rw [h2] at e; rw [← e] at hc; exact absurd hc (by decide)
    obtain ⟨e1, e2⟩ := open' hai
    have s1 : x.see (s.getD i 0) = ⟨x.q, true, x.d⟩ := by
      rw [h2, e1]
      by_cases h34 : c0 = 34
      · simp [Scan.see, h34]
      · have : 0 < x.d := Nat.pos_of_ne_zero fun e => h34 (e2.2 e)
        simp [Scan.see, h34, this]
    have t1 := behind_step i6 i1 (by omega) (by rw [s1]; simp [Scan.closed])
    rw [s1] at t1
    by_cases hl : i + 1 < s.length
    · have s2 : (Scan.mk x.q true x.d).see (s.getD (i + 1) 0) = x := by rw [e1]; simp [Scan.see]
      have hcl : x.closed = false := by
        rw [e1]
        by_cases h34 : c0 = 34
        · simp [Scan.closed, h34]
        · have : ¬ x.d = 0 := fun e => h34 (e2.2 e)
          simp [Scan.closed, this]
      have t2 := behind_step t1 (by omega) hl (by rw [s2]; exact hcl)
      rw [s2] at t2
      exact ⟨(i + 2, x), ⟨rfl, by simp only; omega⟩, ⟨by simp only; omega, by simp only; omega, by simp only; omega, fun h => by simp only at h; omega, fun _ => i5 hai, t2⟩, by simp only; omega⟩
    · refine ⟨(i + 2, x), ⟨rfl, by simp only; omega⟩, ⟨by simp only; omega, by simp only; omega, by simp only; omega, fun h => by simp only at h; omega, fun _ => i5 hai, ?_⟩, by simp only; omega⟩
      simp only
      rw [t1, List.drop_eq_nil_of_le (by omega), List.drop_eq_nil_of_le (by omega)]; rfl
  · rename_i h1 h2 h3 h4 h5
    obtain ⟨e1, e2⟩ := open' (by omega)
    refine (by omega : ((i : Int) + 1 = ((i + 1 : Nat) : Int))).trans (behind_close i6 i1 (by omega) ?_).symm
    rw [h5, e1, e2.1 h3]
    simp [Scan.see, Scan.closed, h3]
  · rename_i h1 h2 h3 h4 h5
    have s1 : x.see (s.getD i 0) = ⟨false, false, x.d + 1⟩ := by
      rw [h5]
      rcases Nat.lt_or_ge a i with h | h
      · rw [(open' h).1]; simp [Scan.see, h4]
      · rw [i4 (by omega)]; rfl
    have t1 := behind_step i6 i1 (by omega) (by rw [s1]; simp [Scan.closed])
    rw [s1] at t1
    exact ⟨(i + 1, ⟨false, false, x.d + 1⟩), ⟨by simp only; omega, by simp only; omega⟩, ⟨by simp only; omega, by simp only; omega, by simp only; omega, fun h => by simp only at h; omega, fun _ => ⟨rfl, by simp [h4], by simp⟩, t1⟩, by simp only; omega⟩
  · rename_i h1 h2 h3 h4 h5 h6 h7
    have hai : a < i := by
      rcases Nat.lt_or_ge a i with h | h
      · exact h
      · have := at0 (by omega); omega
    obtain ⟨e1, e2⟩ := open' hai
    refine (by omega : ((i : Int) + 1 = ((i + 1 : Nat) : Int))).trans (behind_close i6 i1 (by omega) ?_).symm
    have : x.d = 1 := by omega
    rw [h6, e1, this]
    simp [Scan.see, Scan.closed, h5]
  · rename_i h1 h2 h3 h4 h5 h6 h7
    have hai : a < i := by
      rcases Nat.lt_or_ge a i with h | h
      · exact h
      · have e := hia (by omega)
        rw [h6] at e; rw [← e] at hc; exact absurd hc (by decide)
    obtain ⟨e1, e2⟩ := open' hai
    have hd : 1 < x.d := by
      have : ¬ x.d = 0 := fun e => h5 (e2.2 e)
      omega
    have s1 : x.see (s.getD i 0) = ⟨false, false, x.d - 1⟩ := by
      rw [h6, e1]
      have : 0 < x.d := by omega
      simp [Scan.see, h5, this]
    have t1 := behind_step i6 i1 (by omega) (by rw [s1]; simp [Scan.closed]; omega)
    rw [s1] at t1
    exact ⟨(i + 1, ⟨false, false, x.d - 1⟩), ⟨by simp only; omega, by simp only; omega⟩, ⟨by simp only; omega, by simp only; omega, by simp only; omega, fun h => by simp only at h; omega, fun _ => ⟨rfl, by simp [h5], by simp; omega⟩, t1⟩, by simp only; omega⟩
  · rename_i h1 h2 h3 h4 h5
    have s1 : x.see (s.getD i 0) = ⟨decide (c0 = 34), false, x.d⟩ := by
      rcases Nat.lt_or_ge a i with h | h
      · obtain ⟨e1, e2⟩ := open' h
        by_cases h34 : c0 = 34
        · have h6 : ¬ s.getD i 0 = 34 := fun e => by
            rw [decide_eq_true h34, decide_eq_true (by omega), decide_eq_true e] at h3; cases h3
          rw [e1]
          simp only [Scan.see, h34, h2, h6, decide_true, decide_false, Bool.false_eq_true, if_false, if_true, Bool.not_false]
        · have h6 : ¬ s.getD i 0 = 40 := fun e => by
            rw [decide_eq_false h34, decide_eq_true e] at h4; cases h4
          have h7 : ¬ s.getD i 0 = 41 := fun e => by
            rw [decide_eq_false h34, decide_eq_true e] at h5; cases h5
          have h8 : ¬ x.d = 0 := fun e => h34 (e2.2 e)
          rw [e1]
          simp only [Scan.see, h34, h2, h6, h7, h8, decide_false, Bool.false_eq_true, if_false, and_false, false_and]
      · have e := hia (by omega)
        rw [i4 (by omega), e]
        rcases hc with h6 | h6
        · rw [h6]; rfl
        · exfalso
          rw [e, h6] at h4; revert h4; decide
    have hop : c0 = 34 ↔ x.d = 0 := by
      rcases Nat.lt_or_ge a i with h | h
      · exact (open' h).2
      · have e := hia (by omega)
        rcases hc with h6 | h6
        · exact ⟨fun _ => at0 (by omega), fun _ => h6⟩
        · exfalso
          rw [e, h6] at h4; revert h4; decide
    have t1 := behind_step i6 i1 (by omega) (by
      rw [s1]
      by_cases h34 : c0 = 34
      · simp [Scan.closed, h34]
      · have : ¬ x.d = 0 := fun e => h34 (hop.2 e)
        simp [Scan.closed, this])
    rw [s1] at t1
    exact ⟨(i + 1, ⟨decide (c0 = 34), false, x.d⟩), ⟨rfl, by simp only; omega⟩, ⟨by simp only; omega, by simp only; omega, by simp only; omega, fun h => by simp only at h; omega, fun _ => ⟨rfl, rfl, by rw [decide_eq_true_eq]; exact hop⟩, t1⟩, by simp only; omega⟩
  · exact (behind_end i6 i1 (by omega)).symm
def tb_specBehind : List Blk → List AV → Option (List Blk × AV × Prop)
  | [], [.str s, .int .i64 a] => some ([], .int .i64 (behindI s a.toNat), 0 ≤ a ∧ s.length ≤ 100000000 ∧ a < s.length ∧ (s.getD a.toNat 0 = 34 ∨ s.getD a.toNat 0 = 40))
  | _, _ => none
theorem tb_specBehind_ok : ∀ E args E' res q, tb_specBehind E args = some (E', res, q) → q → SpecE Tryz.prog 49 E args E' res := by
  intro E args E' res q h hq
  unfold tb_specBehind at h
  split at h
  · rename_i s a
    simp only [Option.some.injEq, Prod.mk.injEq] at h
    obtain ⟨rfl, rfl, rfl⟩ := h
    obtain ⟨h0, h1, h2, h3⟩ := hq
    have := specBehind s a.toNat h1 (by omega) h3
    rw [show ((a.toNat : Nat) : Int) = a by omega] at this
    exact this
  · cases h
def T_specSplitR : Tbl := fun g E args => (addT (addT nilT 49 Go.Proofs.Tryz.Lists.tb_specBehind) 50 Go.Proofs.Tryz.Oct.tb_specTrimR) g E args
theorem T_specSplitR_ok : TblOK Tryz.prog T_specSplitR := (addT_ok (addT_ok nilT_ok (by decide +kernel) Go.Proofs.Tryz.Lists.tb_specBehind_ok) (by decide +kernel) Go.Proofs.Tryz.Oct.tb_specTrimR_ok)
set_option maxRecDepth 100000 in
set_option maxHeartbeats 4000000 in
theorem specSplitR (s : List UInt8) (hs : s.length ≤ 100000000) : SpecE Tryz.prog 21 [] [.str s] [] (.tuple [enc_strs (splitS s), .bool (endsS s)]) := by
  refine specF0 (C := T_specSplitR) (wr := false) (D := fun _ => []) (U := fun _ => none) (res := [enc_strs (splitS s), .bool (endsS s)]) Tryz.Ty.mixed T_specSplitR_ok Tryz.func21 (nA := 1) (by decide +kernel) rfl (fun _ => rfl) ?_
  simp only [Tryz.f21, bodyOf, rlOf]
  rw [W_V]
  simp (config := {maxSteps := 2000000}) only [T_specSplitR, Go.Proofs.Tryz.Lists.tb_specBehind, Go.Proofs.Tryz.Oct.tb_specTrimR, go_sem, seval]
  (try simp (config := {maxSteps := 2000000}) only [gimp, impB, isT, go_sem, seval])
  refine VL_inv (X := Nat × Nat × List (List UInt8)) (fun y => ⟨[(0, .str s), (4, .ref 176 0 y.2.2.length y.2.2.length), (5, .int .i64 y.2.1), (6, .int .i64 y.1)], [(176, .cells 1 false (.str []) (y.2.2.map .str))]⟩)
    (fun y => y.1 ≤ s.length ∧ y.2.1 ≤ y.1 ∧ y.2.2.length ≤ y.2.1 ∧ elemsS s = y.2.2 ++ elemsGo scan0 ((s.take y.1).drop y.2.1) (s.drop y.1) ∧ endsS s = (scan0.run (s.drop y.1)).closed) (fun y => s.length - y.1) (0, 0, []) ?_ ?_ ?_
  · simp only [go_sem, go_sem, seval]
    try rfl
  · exact ⟨Nat.zero_le _, Nat.le_refl _, Nat.le_refl _, by simp [elemsS], by simp [endsS]⟩
  rintro ⟨i, fr, out⟩ ⟨i1, i2, i3, i4, i5⟩
  simp only at i1 i2 i3 i4 i5
  simp (config := {maxSteps := 2000000}) only [T_specSplitR, Go.Proofs.Tryz.Lists.tb_specBehind, Go.Proofs.Tryz.Oct.tb_specTrimR, go_sem, seval]
  (try simp (config := {maxSteps := 2000000}) only [gimp, impB, isT, go_sem, seval])
  have hne : behindI s i < 0 → i < s.length → endsS s = false := fun h hlt => by
    have hc : closeAt scan0 (s.drop i) = none := by
      cases hc : closeAt scan0 (s.drop i) with
      | none => rfl
      | some n => unfold behindI at h; rw [hc] at h; simp only at h; omega
    rw [i5]; exact closeAt_none hc (fun e => by have := List.drop_eq_nil_iff.1 e; omega)
  have h44 : ∀ c : UInt8, c = 34 ∨ c = 40 → c ≠ 44 := by
    intro c h
    rcases h with rfl | rfl <;> decide
  (repeat' (first | refine And.intro ?_ ?_ | intro _))
  all_goals (try first | omega | assumption | contradiction)
  · rename_i h1 h2 h3
    rw [splitS, hne h3 (by omega)]; rfl
  · rename_i h1 h2 h3
    exact (hne h3 (by omega)).symm
  · rename_i h1 h2 h3
    obtain ⟨k, k1, k2, k3, k4⟩ := behindI_lt (s := s) (a := i) (n := (behindI s i).toNat) (by omega)
    obtain ⟨g1, g2⟩ := elemsGo_close ((s.take i).drop fr) (fun _ => by rw [drop_getD0]; exact h44 _ h2) k1
    refine ⟨(i + k, fr, out), ⟨⟨rfl, rfl, by simp only; omega⟩, rfl⟩, ⟨by simp only; omega, by simp only; omega, i3, ?_, ?_⟩, by simp only; omega⟩
    · simp only
      rw [i4, g1, List.drop_drop]
      congr 2
      have e : s.take (i + k) = s.take i ++ (s.drop i).take k := List.take_add
      rw [e, List.drop_append_of_le_length (by rw [List.length_take]; omega)]
    · simp only
      rw [i5]
      have e : s.drop i = (s.drop i).take k ++ s.drop (i + k) := by rw [← List.drop_drop, List.take_append_drop]
      conv => lhs; rw [e, Scan.run_append, g2]
  · rename_i h1 h2 h3 h4
    have e9 := drop_cons (s := s) (i := i) (by omega)
    have e8 : (s.take (i + 1)).drop (i + 1) = [] := List.drop_eq_nil_of_le (by rw [List.length_take]; omega)
    refine ⟨(i + 1, i + 1, out ++ [(s.take i).drop fr]), ⟨⟨by simp, by simp only; omega, by simp only; omega⟩, by simp⟩, ⟨by simp only; omega, Nat.le_refl _, by simp only [List.length_append, List.length_cons, List.length_nil]; omega, ?_, ?_⟩, by simp only; omega⟩
    · simp only
      rw [i4, e9, elemsGo_cons, if_pos ⟨h4, rfl⟩, List.append_assoc, e8]; rfl
    · simp only
      rw [i5, e9, h4, Scan.run_cons, see_top (by decide) (by decide)]
  · rename_i h1 h2 h3 h4
    have e9 := drop_cons (s := s) (i := i) (by omega)
    have hs := see_top h2 h3
    refine ⟨(i + 1, fr, out), ⟨⟨rfl, rfl, by simp only; omega⟩, rfl⟩, ⟨by simp only; omega, by simp only; omega, i3, ?_, ?_⟩, by simp only; omega⟩
    · simp only
      rw [i4, e9, elemsGo_cons, if_neg (fun h => h4 h.1), hs, take_succ_getD 0 (by omega), List.drop_append_of_le_length (by rw [List.length_take]; omega)]
    · simp only
      rw [i5, e9, Scan.run_cons, hs]
  · rename_i hge
    have e0 : i = s.length := by omega
    subst e0
    rw [List.take_length, List.drop_length] at i4
    rw [List.drop_length] at i5
    have ee : elemsS s = out ++ [s.drop fr] := i4
    have hend : endsS s = true := i5
    have hsp : splitS s = keepE (out ++ [s.drop fr]) := by rw [splitS, if_pos hend, ee]
    generalize hall : out ++ [s.drop fr] = all at *
    have hal : all.length = out.length + 1 := by rw [← hall]; simp
    have hmp : List.map AV.str out ++ [AV.str (s.drop fr)] = all.map AV.str := by rw [← hall]; simp
    rw [hmp, ← hal]
    refine VL_inv (X := Nat) (fun k => ⟨[(0, .str s), (4, .ref 176 0 all.length all.length), (7, .ref 848 0 (keepE (all.take k)).length (keepE (all.take k)).length), (8, .int .i64 k)], [(848, .cells 1 false (.str []) ((keepE (all.take k)).map .str)), (176, .cells 1 false (.str []) (all.map .str))]⟩) (fun k => k ≤ all.length) (fun k => all.length - k) 0 ?_ ?_ ?_
    · simp only [go_sem, go_sem, seval]
      exact ⟨rfl, rfl⟩
    · exact Nat.zero_le _
    rintro k hk
    simp (config := {maxSteps := 2000000}) only [T_specSplitR, Go.Proofs.Tryz.Lists.tb_specBehind, Go.Proofs.Tryz.Oct.tb_specTrimR, go_sem, seval]
    (try simp (config := {maxSteps := 2000000}) only [gimp, impB, isT, go_sem, seval])
    have hbig : ∀ n, (all.getD n []).length ≤ s.length := fun n => getD_len (fun e he => elemsS_len (by rw [ee]; exact he))
    have hmx : (100000000 : Nat) ≤ maxLen := by decide
    have hb := hbig k
    have hkl := keepE_le (all.take k)
    have htl : (all.take k).length ≤ all.length := by rw [List.length_take]; omega
    have hstep : k < all.length → keepE (all.take (k + 1)) = keepE (all.take k) ++ keepE [all.getD k []] := fun h => by
      rw [take_succ_getD [] h, keepE_append]
    have hout : all.length ≤ fr + 1 := by omega
    rw [Nat.zero_add]
    (repeat' (first | refine And.intro ?_ ?_ | intro _))
    all_goals (try first | omega | assumption | contradiction)
    · rename_i h1 h2
      refine ⟨k + 1, ⟨⟨?_, by omega⟩, ?_⟩, by omega, by omega⟩ <;> rw [hstep (by omega), keepE_one, if_neg h2] <;> simp
    · rename_i h1 h2
      refine ⟨k + 1, ⟨⟨?_, by omega⟩, ?_⟩, by omega, by omega⟩ <;> rw [hstep (by omega), keepE_one, if_pos h2] <;> simp
    · have e0 : k = all.length := by omega
      subst e0
      rw [List.take_length, List.take_length, hsp]
    · exact hend.symm
def tb_specSplitR : List Blk → List AV → Option (List Blk × AV × Prop)
  | [], [.str s] => some ([], .tuple [enc_strs (splitS s), .bool (endsS s)], (s.length ≤ 100000000))
  | _, _ => none
theorem tb_specSplitR_ok : ∀ E args E' res p, tb_specSplitR E args = some (E', res, p) → p → SpecE Tryz.prog 21 E args E' res := by
  intro E args E' res p h hp
  unfold tb_specSplitR at h
  split at h
  · simp only [Option.some.injEq, Prod.mk.injEq] at h
    obtain ⟨rfl, rfl, rfl⟩ := h
    exact (specSplitR _ hp)
  · cases h
def T_specHasR : Tbl := fun g E args => (addT (addT nilT 21 Go.Proofs.Tryz.Lists.tb_specSplitR) 23 Go.Proofs.Tryz.Oct.tb_specLowerR) g E args
theorem T_specHasR_ok : TblOK Tryz.prog T_specHasR := (addT_ok (addT_ok nilT_ok (by decide +kernel) Go.Proofs.Tryz.Lists.tb_specSplitR_ok) (by decide +kernel) Go.Proofs.Tryz.Oct.tb_specLowerR_ok)
set_option maxRecDepth 100000 in
set_option maxHeartbeats 4000000 in
theorem specHasR (s w : List UInt8) (hs : s.length ≤ 1000000) (hw : w.length ≤ 1000000) : SpecE Tryz.prog 91 [] [.str s, .str w] [] (.bool (hasS s w)) := by
  refine specF0 (C := T_specHasR) (wr := false) (D := fun _ => []) (U := fun _ => none) (res := [.bool (hasS s w)]) Tryz.Ty.mixed T_specHasR_ok Tryz.func91 (nA := 2) (by decide +kernel) rfl (fun _ => rfl) ?_
  simp only [Tryz.f91, bodyOf, rlOf]
  rw [W_V]
  simp (config := {maxSteps := 2000000}) only [T_specHasR, Go.Proofs.Tryz.Lists.tb_specSplitR, Go.Proofs.Tryz.Oct.tb_specLowerR, go_sem, seval]
  (try simp (config := {maxSteps := 2000000}) only [gimp, impB, isT, go_sem, seval])
  refine ⟨by omega, ?_⟩
  refine VL_inv (X := Nat) (fun k => ⟨[(1, .str w), (5, enc_strs (splitS s)), (7, .int .i64 k)], []⟩) (fun k => k ≤ (splitS s).length ∧ ((splitS s).take k).any (fun e => foldS e w) = false) (fun k => (splitS s).length - k) 0 ?_ ?_ ?_
  · simp only [go_sem, go_sem, seval]
    try rfl
  · exact ⟨Nat.zero_le _, by simp⟩
  rintro k ⟨hk, hn⟩
  simp (config := {maxSteps := 2000000}) only [T_specHasR, Go.Proofs.Tryz.Lists.tb_specSplitR, Go.Proofs.Tryz.Oct.tb_specLowerR, go_sem, seval]
  (try simp (config := {maxSteps := 2000000}) only [gimp, impB, isT, go_sem, seval])
  have hb : ((splitS s).getD k []).length ≤ s.length := getD_len (fun e he => (splitS_mem he).1)
  have hc := splitS_count s
  (repeat' (first | refine And.intro ?_ ?_ | intro _))
  all_goals (try first | omega | assumption | contradiction)
  · rename_i h1 h2
    exact (any_hit (p := fun e => foldS e w) (k := k) [] (by omega) (by simp only [foldS, h2, decide_true])).symm
  · rename_i h1 h2
    refine ⟨k + 1, by omega, ⟨by omega, ?_⟩, by omega⟩
    rw [any_take_succ [] (by omega) hn]
    simp only [foldS, h2, decide_false]
  · have e0 : k = (splitS s).length := by omega
    subst e0
    rw [List.take_length] at hn
    exact hn.symm
def tb_specHasR : List Blk → List AV → Option (List Blk × AV × Prop)
  | [], [.str s, .str w] => some ([], .bool (hasS s w), (s.length ≤ 1000000) ∧ (w.length ≤ 1000000))
  | _, _ => none
theorem tb_specHasR_ok : ∀ E args E' res p, tb_specHasR E args = some (E', res, p) → p → SpecE Tryz.prog 91 E args E' res := by
  intro E args E' res p h hp
  unfold tb_specHasR at h
  split at h
  · simp only [Option.some.injEq, Prod.mk.injEq] at h
    obtain ⟨rfl, rfl, rfl⟩ := h
    exact (specHasR _ _ hp.1 hp.2)
  · cases h
def T_specJoinR : Tbl := fun g E args => nilT g E args
theorem T_specJoinR_ok : TblOK Tryz.prog T_specJoinR := nilT_ok
set_option maxRecDepth 100000 in
set_option maxHeartbeats 4000000 in
theorem specJoinR (l : List (List UInt8)) (hn : l.length ≤ 1000) (hl : ∀ x ∈ l, x.length ≤ 1000000) : SpecE Tryz.prog 48 [] [enc_strs l] [] (.str (joinS l)) := by
  refine specF0 (C := T_specJoinR) (wr := false) (D := fun _ => []) (U := fun _ => none) (res := [.str (joinS l)]) Tryz.Ty.mixed T_specJoinR_ok Tryz.func48 (nA := 1) (by decide +kernel) rfl (fun _ => rfl) ?_
  simp only [Tryz.f48, bodyOf, rlOf]
  rw [W_V]
  simp (config := {maxSteps := 2000000}) only [T_specJoinR, go_sem, seval]
  (try simp (config := {maxSteps := 2000000}) only [gimp, impB, isT, go_sem, seval])
  refine VL_inv (X := Nat) (fun k => ⟨[(0, enc_strs l), (3, .str (joinS (l.take k))), (4, .int .i64 k)], []⟩) (fun k => k ≤ l.length) (fun k => l.length - k) 0 ?_ ?_ ?_
  · simp only [go_sem, go_sem, seval]
    try rfl
  · exact Nat.zero_le _
  rintro k hk
  simp (config := {maxSteps := 2000000}) only [T_specJoinR, go_sem, seval]
  (try simp (config := {maxSteps := 2000000}) only [gimp, impB, isT, go_sem, seval])
  have hb : (l.getD k []).length ≤ 1000000 := getD_len hl
  have hj : (joinS (l.take k)).length ≤ (l.take k).length * (1000000 + 2) := joinS_len (fun e he => hl e (List.mem_of_mem_take he))
  have hlt : (l.take k).length = k := by rw [List.length_take]; omega
  have hk2 : (joinS (l.take k)).length ≤ 1000 * 1000002 := Nat.le_trans hj (by rw [hlt]; exact Nat.mul_le_mul (by omega) (Nat.le_refl _))
  have hjl : (joinS (l.take k) ++ [44, 32]).length = (joinS (l.take k)).length + 2 := by simp
  (repeat' (first | refine And.intro ?_ ?_ | intro _))
  all_goals (try first | omega | assumption | contradiction)
  · rename_i h1 h2
    refine ⟨k + 1, ⟨?_, by omega⟩, by omega, by omega⟩
    rw [take_succ_getD [] (by omega), joinS_snoc, if_neg (fun e => by rw [e] at hlt; simp at hlt; omega)]
  · rename_i h1 h2
    refine ⟨k + 1, ⟨?_, by omega⟩, by omega, by omega⟩
    have : k = 0 := by omega
    subst this
    rw [take_succ_getD [] (by omega), joinS_snoc, if_pos (by simp)]; rfl
  · rw [List.take_of_length_le (by omega)]
def tb_specJoinR : List Blk → List AV → Option (List Blk × AV × Prop)
  | [], [a0] => some ([], .str (joinS (dec_strs a0)), ((dec_strs a0).length ≤ 1000) ∧ (∀ x ∈ (dec_strs a0), x.length ≤ 1000000) ∧ argOK a0 (enc_strs (dec_strs a0)))
  | _, _ => none
theorem tb_specJoinR_ok : ∀ E args E' res p, tb_specJoinR E args = some (E', res, p) → p → SpecE Tryz.prog 48 E args E' res := by
  intro E args E' res p h hp
  unfold tb_specJoinR at h
  split at h
  · simp only [Option.some.injEq, Prod.mk.injEq] at h
    obtain ⟨rfl, rfl, rfl⟩ := h
    exact SpecE.args (specJoinR _ hp.1 hp.2.1) (.cons hp.2.2 .nil)
  · cases h
end Go.Proofs.Tryz.Lists
end
section
set_option linter.unusedVariables false
set_option linter.unusedSimpArgs false
namespace Go.Mdl
open Go Go.Abs
abbrev Fld := List UInt8 × List UInt8
def shortF (f : Fld) : Bool := decide (f.1.length ≤ 100) && decide (f.2.length ≤ 300)
def fewF (l : List Fld) : Bool := decide (l.length ≤ 40) && l.all shortF
theorem fewF_len {l : List Fld} (h : fewF l = true) : l.length ≤ 40 ∧ ∀ f ∈ l, f.1.length ≤ 100 ∧ f.2.length ≤ 300 := by
  simp only [fewF, Bool.and_eq_true, decide_eq_true_eq, List.all_eq_true] at h
  refine ⟨h.1, fun f hf => ?_⟩
  have := h.2 f hf
  simpa only [shortF, Bool.and_eq_true, decide_eq_true_eq] using this
end Go.Mdl
namespace Go.Proofs.Tryz.HdrR
open Go Go.Abs Go.Proofs Go.Mdl
def T_specSameF : Tbl := fun g E args => nilT g E args
theorem T_specSameF_ok : TblOK Tryz.prog T_specSameF := nilT_ok
set_option maxRecDepth 100000 in
set_option maxHeartbeats 4000000 in
theorem specSameF (a b : List Fld) (h : a.length ≤ 2147483647) : SpecE Tryz.prog 15 [] [enc_flds a, enc_flds b] [] (.bool (decide (a = b))) := by
  refine specF0 (C := T_specSameF) (wr := false) (D := fun _ => []) (U := fun _ => none) (res := [.bool (decide (a = b))]) Tryz.Ty.mixed T_specSameF_ok Tryz.func15 (nA := 2) (by decide +kernel) rfl (fun _ => rfl) ?_
  simp only [Tryz.f15, bodyOf, rlOf]
  rw [W_V]
  simp (config := {maxSteps := 2000000}) only [T_specSameF, go_sem, seval]
  (try simp (config := {maxSteps := 2000000}) only [gimp, impB, isT, go_sem, seval])
  refine ⟨fun hne => ?_, fun heq => ?_⟩
  · symm; rw [decide_eq_false_iff_not]; rintro rfl; exact hne rfl
  have hl : a.length = b.length := by omega
  refine VL_inv (X := Nat) (fun x => ⟨[(0, enc_flds a), (1, enc_flds b), (5, .int .i64 x)], []⟩) (fun x => x ≤ a.length ∧ a.take x = b.take x) (fun x => a.length - x) 0 ?_ ?_ ?_
  · simp only [go_sem, go_sem, seval]
    try rfl
  · exact ⟨Nat.zero_le _, by simp⟩
  rintro x ⟨hx, hn⟩
  simp (config := {maxSteps := 2000000}) only [T_specSameF, go_sem, seval]
  (try simp (config := {maxSteps := 2000000}) only [gimp, impB, isT, go_sem, seval])
  refine ⟨fun hlt => ?_, fun hge => ?_⟩
  · obtain ⟨h1, h2⟩ := same_step (a := a) (b := b) (x := x) ([], []) hl (by omega) hn
    refine ⟨by omega, by omega, fun he => ?_, fun e1 e2 => ⟨by omega, x + 1, by omega, ⟨by omega, h1 (Prod.ext e1 e2)⟩, by omega⟩⟩
    have : a ≠ b := h2 (fun e => by rw [e] at he; simp at he)
    simp [this]
  · have : x = a.length := by omega
    subst this
    rw [List.take_length, hl, List.take_length] at hn
    simp [hn]
def tb_specSameF : List Blk → List AV → Option (List Blk × AV × Prop)
  | [], [a0, a1] => some ([], .bool (decide ((dec_flds a0) = (dec_flds a1))), ((dec_flds a0).length ≤ 2147483647) ∧ argOK a0 (enc_flds (dec_flds a0)) ∧ argOK a1 (enc_flds (dec_flds a1)))
  | _, _ => none
theorem tb_specSameF_ok : ∀ E args E' res p, tb_specSameF E args = some (E', res, p) → p → SpecE Tryz.prog 15 E args E' res := by
  intro E args E' res p h hp
  unfold tb_specSameF at h
  split at h
  · simp only [Option.some.injEq, Prod.mk.injEq] at h
    obtain ⟨rfl, rfl, rfl⟩ := h
    exact SpecE.args (specSameF _ _ hp.1) (.cons hp.2.1 (.cons hp.2.2 .nil))
  · cases h
def T_specFew : Tbl := fun g E args => nilT g E args
theorem T_specFew_ok : TblOK Tryz.prog T_specFew := nilT_ok
set_option maxRecDepth 100000 in
set_option maxHeartbeats 4000000 in
theorem specFew (l : List Fld) (h : l.length ≤ maxLen) : SpecE Tryz.prog 8 [] [enc_flds l] [] (.bool (fewF l)) := by
  refine specF0 (C := T_specFew) (wr := false) (D := fun _ => []) (U := fun _ => none) (res := [.bool (fewF l)]) Tryz.Ty.mixed T_specFew_ok Tryz.func8 (nA := 1) (by decide +kernel) rfl (fun _ => rfl) ?_
  simp only [Tryz.f8, bodyOf, rlOf]
  rw [W_V]
  simp (config := {maxSteps := 2000000}) only [T_specFew, go_sem, seval]
  (try simp (config := {maxSteps := 2000000}) only [gimp, impB, isT, go_sem, seval])
  refine ⟨fun h => by simp [fewF]; omega, fun h40 => ?_⟩
  refine VL_inv (X := Nat) (fun k => ⟨[(8, enc_flds l), (9, .int .i64 l.length), (10, .int .i64 k)], []⟩) (fun k => k ≤ l.length ∧ (l.take k).all shortF = true) (fun k => l.length - k) 0 ?_ ?_ ?_
  · simp only [go_sem, go_sem, seval]
    try rfl
  · exact ⟨Nat.zero_le _, by simp⟩
  rintro k ⟨hk, hn⟩
  simp (config := {maxSteps := 2000000}) only [T_specFew, go_sem, seval]
  (try simp (config := {maxSteps := 2000000}) only [gimp, impB, isT, go_sem, seval])
  have hmem : k < l.length → l.getD k ([], []) ∈ l := fun h => List.mem_of_getElem? (getD_of_lt (s := l) (d := ([], [])) h)
  (repeat' (first | refine And.intro ?_ ?_ | intro _))
  all_goals (try first | omega | assumption | contradiction)
  · rename_i h1 h2
    have hs : shortF (l.getD k ([], [])) = false := by
      simp only [shortF, Bool.and_eq_false_iff, decide_eq_false_iff_not]; omega
    have : l.all shortF = false := List.all_eq_false.2 ⟨_, hmem (by omega), by rw [hs]; simp⟩
    simp [fewF, this]
  · rename_i h1 h2 h3
    refine ⟨k + 1, by omega, ⟨by omega, ?_⟩, by omega⟩
    rw [take_succ_getD ([], []) (by omega), List.all_append, hn]
    simp only [List.all_cons, List.all_nil, Bool.and_true, Bool.true_and, shortF, Bool.and_eq_true, decide_eq_true_eq]
    omega
  · have : k = l.length := by omega
    subst this
    rw [List.take_length] at hn
    simp [fewF, hn]; omega
def tb_specFew : List Blk → List AV → Option (List Blk × AV × Prop)
  | [], [a0] => some ([], .bool (fewF (dec_flds a0)), ((dec_flds a0).length ≤ maxLen) ∧ argOK a0 (enc_flds (dec_flds a0)))
  | _, _ => none
theorem tb_specFew_ok : ∀ E args E' res p, tb_specFew E args = some (E', res, p) → p → SpecE Tryz.prog 8 E args E' res := by
  intro E args E' res p h hp
  unfold tb_specFew at h
  split at h
  · simp only [Option.some.injEq, Prod.mk.injEq] at h
    obtain ⟨rfl, rfl, rfl⟩ := h
    exact SpecE.args (specFew _ hp.1) (.cons hp.2 .nil)
  · cases h
end Go.Proofs.Tryz.HdrR
end
section
set_option linter.unusedVariables false
set_option linter.unusedSimpArgs false
namespace Go.Mdl
open Go Go.Abs
theorem head_lt {t : List UInt8} {n : Nat} {c : UInt8} (h : (t.drop n).head? = some c) : n < t.length := by
  rcases Nat.lt_or_ge n t.length with h1 | h1
  · exact h1
  · rw [List.drop_eq_nil_of_le h1] at h; simp at h
end Go.Mdl
end
section
set_option linter.unusedVariables false
set_option linter.unusedSimpArgs false
namespace Go.Mdl
open Go Go.Abs
theorem qGo_out (k : Nat) : ∀ {s acc t : List UInt8} {i n : Nat}, s.length ≤ k → qGo s acc i = some (t, n) → t.length + i + 1 ≤ acc.length + n := by
  induction k with
  | zero =>
    intro s acc t i n hk h
    have : s = [] := List.length_eq_zero_iff.1 (by omega)
    subst this; simp [qGo] at h
  | succ k ih =>
    intro s acc t i n hk h
    cases s with
    | nil => simp [qGo] at h
    | cons c r =>
      simp only [List.length_cons] at hk
      rw [qGo.eq_def] at h
      simp only at h
      split at h
      · simp only [Option.some.injEq, Prod.mk.injEq] at h
        obtain ⟨rfl, rfl⟩ := h; omega
      · split at h
        · split at h
          · cases h
          · rename_i d r'
            split at h
            · have := ih (by simp only [List.length_cons] at hk; omega) h
              simp only [List.length_append, List.length_cons, List.length_nil] at this; omega
            · cases h
        · split at h
          · have := ih (by omega) h
            simp only [List.length_append, List.length_cons, List.length_nil] at this; omega
          · cases h
theorem qText_len (t : List UInt8) : (qText t).length ≤ qLen t := by
  unfold qText qLen
  split
  · rename_i o k h
    unfold qTop at h
    split at h
    · cases h
    · split at h
      · have := qGo_out _ (Nat.le_refl _) h
        rw [List.length_nil] at this; omega
      · cases h
  · simp
end Go.Mdl
end
section
set_option linter.unusedVariables false
set_option linter.unusedSimpArgs false
namespace Go.Mdl
open Go Go.Abs
def digI (r : Int) : Int := if 48 ≤ r ∧ r ≤ 57 then r - 48 else if 97 ≤ r ∧ r ≤ 102 then r - 87 else if 65 ≤ r ∧ r ≤ 70 then r - 55 else -1
def digB (c : UInt8) : Int := digI c.toNat
def isDig (b : Int) (c : UInt8) : Bool := decide (0 ≤ digB c ∧ digB c < b)
def refDig (c : UInt8) : Int := if digB c < 0 then 99 else digB c
def numV (b : Int) (s : List UInt8) : Int := s.foldl (fun n c => n * b + digB c) 0
def numErr (b most : Int) (s : List UInt8) : Int := if s = [] then 2 else if s.all (isDig b) = true then (if most < numV b s then 5 else 0) else 3
def numVal (b most : Int) (s : List UInt8) : Int := if numErr b most s = 0 then numV b s else 0
theorem digI_range (r : Int) : -1 ≤ digI r ∧ digI r ≤ 15 := by
  unfold digI
  split
  · omega
  · split
    · omega
    · split <;> omega
theorem digI_high {r : Int} (h : 128 ≤ r) : digI r = -1 := by
  unfold digI
  rw [if_neg (by omega), if_neg (by omega), if_neg (by omega)]
theorem isDig_iff (b : Int) (c : UInt8) : isDig b c = true ↔ 0 ≤ digB c ∧ digB c < b := by simp [isDig]
theorem refDig_ge {b : Int} (hb : b = 10 ∨ b = 16) (c : UInt8) : (b ≤ refDig c) ↔ isDig b c = false := by
  rw [← Bool.not_eq_true, isDig_iff]
  have := digI_range c.toNat
  unfold refDig digB
  split <;> omega
theorem refDig_of {b : Int} {c : UInt8} (h : isDig b c = true) : refDig c = digB c := by
  rw [isDig_iff] at h
  unfold refDig; rw [if_neg (by omega)]
theorem numV_snoc (b : Int) (s : List UInt8) (c : UInt8) : numV b (s ++ [c]) = numV b s * b + digB c := by simp [numV]
theorem numV_go (b : Int) : ∀ (s : List UInt8) (n : Int), s.foldl (fun n c => n * b + digB c) n = n * b ^ s.length + numV b s
  | [], n => by simp [numV]
  | c :: r, n => by
    simp only [List.foldl_cons, List.length_cons, numV]
    rw [numV_go b r, numV_go b r (0 * b + digB c), Int.pow_succ, Int.add_mul]
    have e : n * b * b ^ r.length = n * (b ^ r.length * b) := by rw [Int.mul_assoc, Int.mul_comm b]
    rw [e]
    have z : (0 * b + digB c) = digB c := by omega
    rw [z]
    omega
theorem numV_append (b : Int) (s t : List UInt8) : numV b (s ++ t) = numV b s * b ^ t.length + numV b t := by
  show (s ++ t).foldl _ 0 = _
  rw [List.foldl_append, numV_go]; rfl
theorem numV_cons (b : Int) (c : UInt8) (t : List UInt8) : numV b (c :: t) = digB c * b ^ t.length + numV b t := by
  have := numV_append b [c] t
  simpa [numV] using this
theorem pow_pos {b : Int} (hb : 1 ≤ b) : ∀ n : Nat, 1 ≤ b ^ n
  | 0 => by simp
  | n + 1 => by
    rw [Int.pow_succ]
    have h1 := pow_pos hb n
    have := Int.mul_le_mul h1 hb (by omega) (by omega)
    omega
theorem numV_nonneg {b : Int} (hb : 1 ≤ b) : ∀ (s : List UInt8), s.all (isDig b) = true → 0 ≤ numV b s
  | [], _ => by simp [numV]
  | c :: r, h => by
    simp only [List.all_cons, Bool.and_eq_true] at h
    have h1 := numV_nonneg hb r h.2
    have h2 := (isDig_iff b c).1 h.1
    rw [numV_cons]
    have := Int.mul_nonneg h2.1 (show 0 ≤ b ^ r.length by have := pow_pos hb r.length; omega)
    omega
theorem numV_mono {b : Int} (hb : 1 ≤ b) {s t : List UInt8} (hs : s.all (isDig b) = true) (h : t.all (isDig b) = true) : numV b s ≤ numV b (s ++ t) := by
  rw [numV_append]
  have h1 := numV_nonneg hb t h
  have h2 := numV_nonneg hb s hs
  have h3 := Int.mul_le_mul_of_nonneg_left (pow_pos hb t.length) h2
  omega
theorem all_take {p : UInt8 → Bool} {s : List UInt8} (n : Nat) (h : s.all p = true) : (s.take n).all p = true := by
  rw [List.all_eq_true] at h ⊢
  exact fun x hx => h x (List.mem_of_mem_take hx)
theorem all_drop {p : UInt8 → Bool} {s : List UInt8} (n : Nat) (h : s.all p = true) : (s.drop n).all p = true := by
  rw [List.all_eq_true] at h ⊢
  exact fun x hx => h x (List.mem_of_mem_drop hx)
theorem all_get {p : UInt8 → Bool} {s : List UInt8} {x : Nat} (h : s.all p = true) (hx : x < s.length) : p (s.getD x 0) = true := by
  rw [List.all_eq_true] at h
  exact h _ (List.mem_of_getElem? (getD_of_lt (s := s) (d := 0) hx))
theorem numV_take_le {b : Int} (hb : 1 ≤ b) {s : List UInt8} (h : s.all (isDig b) = true) (n : Nat) : numV b (s.take n) ≤ numV b s := by
  have := numV_mono hb (all_take n h) (all_drop n h)
  rwa [List.take_append_drop] at this
theorem numV_take_succ (b : Int) {s : List UInt8} {x : Nat} (hx : x < s.length) : numV b (s.take (x + 1)) = numV b (s.take x) * b + digB (s.getD x 0) := by
  rw [take_succ_getD 0 hx, numV_snoc]
theorem numV_great {b : Int} (hb : 1 ≤ b) {s : List UInt8} (h : s.all (isDig b) = true) (hl : 1 ≤ s.length) (h0 : s.getD 0 0 ≠ 48) : b ^ (s.length - 1) ≤ numV b s := by
  cases s with
  | nil => simp at hl
  | cons c r =>
    simp only [List.all_cons, Bool.and_eq_true] at h
    have h2 := (isDig_iff b c).1 h.1
    have h1 := numV_nonneg hb r h.2
    have hc : 1 ≤ digB c := by
      rcases Int.lt_or_le (digB c) 1 with h3 | h3
      · exfalso
        have e : digB c = 0 := by omega
        unfold digB digI at e
        have hn : c.toNat = 48 := by
          split at e
          · omega
          · split at e
            · omega
            · split at e <;> omega
        exact h0 (by simpa using UInt8.toNat.inj (b := 48) (by simpa using hn))
      · exact h3
    rw [numV_cons]
    have := Int.mul_le_mul_of_nonneg_right hc (show 0 ≤ b ^ r.length by have := pow_pos hb r.length; omega)
    simp only [List.length_cons, Nat.add_sub_cancel]
    omega
theorem numV_zero {b : Int} {s : List UInt8} (hl : 1 ≤ s.length) (h0 : s.getD 0 0 = 48) : numV b (s.drop 1) = numV b s := by
  cases s with
  | nil => simp at hl
  | cons c r =>
    simp at h0
    subst h0
    rw [numV_cons]
    have : digB 48 = 0 := by decide
    simp [this]
theorem pow_mono {b : Int} (hb : 1 ≤ b) {m n : Nat} (h : m ≤ n) : b ^ m ≤ b ^ n := by
  induction n with
  | zero => have : m = 0 := by omega
            subst this; exact Int.le_refl _
  | succ n ih =>
    by_cases e : m = n + 1
    · subst e; exact Int.le_refl _
    · have h1 := ih (by omega)
      rw [Int.pow_succ]
      have := Int.mul_le_mul_of_nonneg_left hb (show 0 ≤ b ^ n by have := pow_pos hb n; omega)
      omega
theorem pow_19 {b : Int} (hb : b = 10 ∨ b = 16) {n : Nat} (h : 19 ≤ n) : 9223372036854775807 < b ^ n := by
  have h1 : (1:Int) ≤ b := by omega
  have h2 := pow_mono h1 h
  have h3 : 9223372036854775807 < b ^ 19 := by rcases hb with rfl | rfl <;> decide
  omega
theorem over_step {b most n d : Int} (hb : b = 10 ∨ b = 16) (hn : 0 ≤ n) (hd : 0 ≤ d) (h : d ≤ most) : ((most - d).tdiv b < n) = (most < n * b + d) := by
  rw [Int.tdiv_eq_ediv_of_nonneg (by omega)]
  apply propext
  rcases hb with rfl | rfl <;> constructor <;> intro h <;> omega
theorem tdiv_range {b m : Int} (hb : b = 10 ∨ b = 16) (h0 : 0 ≤ m) (h1 : m ≤ 9223372036854775807) : 0 ≤ m.tdiv b ∧ m.tdiv b ≤ 9223372036854775807 := by
  rw [Int.tdiv_eq_ediv_of_nonneg h0]
  rcases hb with rfl | rfl <;> omega
theorem num_bad {b most : Int} {s : List UInt8} {x : Nat} (hx : x < s.length) (h : isDig b (s.getD x 0) = false) : numErr b most s = 3 ∧ numVal b most s = 0 := by
  have h1 : ¬ s = [] := fun e => by simp [e] at hx
  have h2 : ¬ s.all (isDig b) = true := fun h2 => by rw [all_get h2 hx] at h; cases h
  have : numErr b most s = 3 := by simp [numErr, h1, h2]
  exact ⟨this, by simp [numVal, this]⟩
theorem num_over {b most : Int} {s : List UInt8} (h1 : ¬ s = []) (h2 : s.all (isDig b) = true) (h : most < numV b s) : numErr b most s = 5 ∧ numVal b most s = 0 := by
  have : numErr b most s = 5 := by simp [numErr, h1, h2, h]
  exact ⟨this, by simp [numVal, this]⟩
theorem num_good {b most : Int} {s : List UInt8} (h1 : ¬ s = []) (h2 : s.all (isDig b) = true) (h : numV b s ≤ most) : numErr b most s = 0 ∧ numVal b most s = numV b s := by
  have : numErr b most s = 0 := by simp [numErr, h1, h2]; omega
  exact ⟨this, by simp [numVal, this]⟩
theorem dig_rune {s : List UInt8} {x : Nat} (hx : x < s.length) : (0 ≤ digI (runeAt s x).1 → (s.getD x 0).toNat < 128) ∧ digI (runeAt s x).1 = digB (s.getD x 0) ∧ (0 ≤ digI (runeAt s x).1 → (runeAt s x).2 = 1) := by
  by_cases hl : (s.getD x 0).toNat < 128
  · rw [rune_low hl]; exact ⟨fun _ => hl, rfl, fun _ => rfl⟩
  · obtain ⟨h1, _⟩ := rune_high hx (by omega)
    rw [digI_high h1]
    refine ⟨fun h => by omega, ?_, fun h => by omega⟩
    rw [digB, digI_high (by omega)]
theorem refDig_lt {b : Int} (hb : b = 10 ∨ b = 16) (c : UInt8) : (refDig c < b) ↔ isDig b c = true := by
  have := refDig_ge hb c
  rw [← Bool.not_eq_false, ← this]; omega
def sign16 : List UInt8 := [48, 49, 50, 51, 52, 53, 54, 55, 56, 57, 97, 98, 99, 100, 101, 102]
def signN (n : Nat) : UInt8 := sign16.getD n 0
def digsF (b : Nat) : Nat → Nat → List UInt8
  | 0, _ => []
  | f + 1, n => if n < b then [signN n] else digsF b f (n / b) ++ [signN (n % b)]
def digs (b n : Nat) : List UInt8 := digsF b 70 n
theorem half_lt {b n f : Nat} (hb : 2 ≤ b) (h : n < 2 ^ (f + 1)) : n / b < 2 ^ f := by
  have h1 : n / b ≤ n / 2 := Nat.div_le_div_left hb (by omega)
  rw [Nat.pow_succ] at h
  omega
theorem digsF_eq {b : Nat} (hb : 2 ≤ b) : ∀ (f f' n : Nat), n < 2 ^ f → n < 2 ^ f' → 1 ≤ f → 1 ≤ f' → digsF b f n = digsF b f' n
  | 0, _, n, _, _, hf, _ => by omega
  | _, 0, n, _, _, _, hf => by omega
  | f + 1, f' + 1, n, h, h', _, _ => by
    simp only [digsF]
    by_cases e : n < b
    · rw [if_pos e, if_pos e]
    · rw [if_neg e, if_neg e]
      have hp : 1 ≤ n / b := (Nat.le_div_iff_mul_le (by omega)).2 (by omega)
      have g := half_lt hb h
      have g' := half_lt hb h'
      have f1 : 1 ≤ f := by
        cases f with
        | zero => simp at g; omega
        | succ f => omega
      have f2 : 1 ≤ f' := by
        cases f' with
        | zero => simp at g'; omega
        | succ f' => omega
      rw [digsF_eq hb f f' (n / b) g g' f1 f2]
theorem digs_small {b n : Nat} (h : n < b) : digs b n = [signN n] := by simp only [digs, digsF, if_pos h]
theorem digs_step {b n : Nat} (hb : 2 ≤ b) (hn : n < 18446744073709551616) (h : b ≤ n) : digs b n = digs b (n / b) ++ [signN (n % b)] := by
  have h70 : n < 2 ^ 70 := by have : (18446744073709551616 : Nat) ≤ 2 ^ 70 := by decide
                              omega
  have hp : 1 ≤ n / b := (Nat.le_div_iff_mul_le (by omega)).2 (by omega)
  show digsF b 70 n = _
  rw [show digsF b 70 n = if n < b then [signN n] else digsF b 69 (n / b) ++ [signN (n % b)] from rfl, if_neg (by omega)]
  congr 1
  have h2 : n / b ≤ n := Nat.div_le_self _ _
  exact digsF_eq hb 69 70 _ (half_lt hb h70) (by omega) (by omega) (by omega)
theorem digsF_len {b : Nat} : ∀ f n, (digsF b f n).length ≤ f
  | 0, _ => by simp [digsF]
  | f + 1, n => by
    have := digsF_len (b := b) f (n / b)
    simp only [digsF]; split <;> simp <;> omega
theorem digs_len (b n : Nat) : (digs b n).length ≤ 70 := digsF_len 70 n
theorem digsF_pos {b : Nat} (f n : Nat) : 1 ≤ (digsF b (f + 1) n).length := by
  simp only [digsF]; split <;> simp
theorem digs_pos (b n : Nat) : 1 ≤ (digs b n).length := digsF_pos 69 n
def textI (n : Int) : List UInt8 := if n < 0 then 45 :: digs 10 n.natAbs else digs 10 n.natAbs
def padS (n wide : Int) : List UInt8 := if n < 0 then textI n else List.replicate (max 0 (min wide 20 - ((textI n).length : Int))).toNat 48 ++ textI n
theorem textI_len (n : Int) : (textI n).length ≤ 71 := by
  have := digs_len 10 n.natAbs
  unfold textI; split <;> simp <;> omega
theorem textI_pos (n : Int) : 1 ≤ (textI n).length := by
  have := digs_pos 10 n.natAbs
  unfold textI; split <;> simp <;> omega
theorem drop_set_at {α : Type} {l : List α} {i : Nat} (h : i < l.length) (v : α) : (l.set i v).drop i = v :: l.drop (i + 1) := by
  rw [List.set_eq_take_append_cons_drop, if_pos h, List.drop_left' (by simp; omega)]
theorem max_abs (d : Int) : max d (0 - d) = (d.natAbs : Int) := by omega
theorem sign_slice : ∀ k, k < 16 → List.drop k (List.take (k + 1) sign16) = [signN k] := by decide
theorem sign_slice' (k : Nat) (h : k < 16) : List.drop k (48 :: List.take k [49, 50, 51, 52, 53, 54, 55, 56, 57, 97, 98, 99, 100, 101, 102]) = [signN k] := by
  have := sign_slice k h
  simpa only [sign16, List.take_succ_cons] using this
theorem tmod_nat {b : Int} (hb : b = 10 ∨ b = 16) (m : Nat) : (m : Int).tmod b = ((m % b.toNat : Nat) : Int) ∧ (m : Int).tdiv b = ((m / b.toNat : Nat) : Int) := by
  rw [Int.tmod_eq_emod_of_nonneg (by omega), Int.tdiv_eq_ediv_of_nonneg (by omega)]
  rcases hb with rfl | rfl
  · exact ⟨by simp, by simp⟩
  · exact ⟨by simp, by simp⟩
end Go.Mdl
end
section
set_option linter.unusedVariables false
set_option linter.unusedSimpArgs false
namespace Go.Mdl
open Go Go.Abs
def hdDays : List (List UInt8) := [[83, 117, 110, 100, 97, 121], [77, 111, 110, 100, 97, 121], [84, 117, 101, 115, 100, 97, 121], [87, 101, 100, 110, 101, 115, 100, 97, 121], [84, 104, 117, 114, 115, 100, 97, 121], [70, 114, 105, 100, 97, 121], [83, 97, 116, 117, 114, 100, 97, 121]]
def hdDays3 : List (List UInt8) := [[83, 117, 110], [77, 111, 110], [84, 117, 101], [87, 101, 100], [84, 104, 117], [70, 114, 105], [83, 97, 116]]
def hdMonths : List (List UInt8) := [[74, 97, 110], [70, 101, 98], [77, 97, 114], [65, 112, 114], [77, 97, 121], [74, 117, 110], [74, 117, 108], [65, 117, 103], [83, 101, 112], [79, 99, 116], [78, 111, 118], [68, 101, 99]]
structure Rd where
  s : List UInt8
  y : Int
  mo : Int
  d : Int
  h : Int
  mi : Int
  se : Int
  week : Int
  two : Bool
  bad : Bool
def enc_rd (p : Rd) : AV := .agg [.str p.s, .int .i64 p.y, .int .i64 p.mo, .int .i64 p.d, .int .i64 p.h, .int .i64 p.mi, .int .i64 p.se, .int .i64 p.week, .bool p.two, .bool p.bad]
def rz : AV := .agg [.str [], .int .i64 0, .int .i64 0, .int .i64 0, .int .i64 0, .int .i64 0, .int .i64 0, .int .i64 0, .bool false, .bool false]
theorem rd_eta (p : Rd) : Rd.mk p.s p.y p.mo p.d p.h p.mi p.se p.week p.two p.bad = p := rfl
def rd0 (s : List UInt8) : Rd := ⟨s, 0, 0, 0, 0, 0, 0, 0, false, false⟩
def wHit (l : List (List UInt8)) (s : List UInt8) : Bool := l.any fun w => Lib.hasPrefix s w
def wIx (l : List (List UInt8)) (s : List UInt8) : Nat := l.findIdx fun w => Lib.hasPrefix s w
def wdS (l : List (List UInt8)) (s : List UInt8) : List UInt8 := if wHit l s = true then s.drop (l.getD (wIx l s) []).length else s
def wdB (l : List (List UInt8)) (s : List UInt8) : Bool := !wHit l s
def wdN (l : List (List UInt8)) (s : List UInt8) : Int := if wHit l s = true then (wIx l s : Int) else 0
def nmS (w : Nat) (s : List UInt8) : List UInt8 := if s.length < w then s else s.drop w
def nmB (w : Nat) (s : List UInt8) : Bool := decide (s.length < w) || !decide (numErr 10 9999 (s.take w) = 0)
def nmN (w : Nat) (s : List UInt8) : Int := if s.length < w then 0 else numVal 10 9999 (s.take w)
def blS (s : List UInt8) : List UInt8 := if Lib.hasPrefix s [32] = true then s.drop 1 else s
def blW (s : List UInt8) : Nat := if Lib.hasPrefix s [32] = true then 1 else 2
def Rd.word (p : Rd) (l : List (List UInt8)) : Rd := { p with s := wdS l p.s, bad := p.bad || wdB l p.s }
def Rd.num (p : Rd) (w : Nat) : Rd := { p with s := nmS w p.s, bad := p.bad || nmB w p.s }
def partS (c : UInt8) (p : Rd) : Rd :=
  if c = 119 then { p.word hdDays3 with week := wdN hdDays3 p.s }
  else if c = 87 then { p.word hdDays with week := wdN hdDays p.s }
  else if c = 100 then { p.num 2 with d := nmN 2 p.s }
  else if c = 98 then { p with s := nmS (blW p.s) (blS p.s), bad := p.bad || nmB (blW p.s) (blS p.s), d := nmN (blW p.s) (blS p.s) }
  else if c = 109 then { p.word hdMonths with mo := wdN hdMonths p.s + 1 }
  else if c = 121 then { p.num 4 with y := nmN 4 p.s }
  else if c = 107 then { p.num 2 with y := nmN 2 p.s, two := true }
  else if c = 116 then
    let s1 := nmS 2 p.s
    let s2 := wdS [[58]] s1
    let s3 := nmS 2 s2
    let s4 := wdS [[58]] s3
    { p with s := nmS 2 s4, h := nmN 2 p.s, mi := nmN 2 s2, se := nmN 2 s4, bad := p.bad || nmB 2 p.s || wdB [[58]] s1 || nmB 2 s2 || wdB [[58]] s3 || nmB 2 s4 }
  else if c = 122 then p.word [[71, 77, 84]]
  else p.word [[c]]
def runS (pat : List UInt8) (p : Rd) : Rd := pat.foldl (fun p c => partS c p) p
def wholeS (s pat : List UInt8) : Rd := { runS pat (rd0 s) with bad := (runS pat (rd0 s)).bad || !decide ((runS pat (rd0 s)).s = []) }
def hdPat1 : List UInt8 := [119, 44, 32, 100, 32, 109, 32, 121, 32, 116, 32, 122]
def hdPat2 : List UInt8 := [87, 44, 32, 100, 45, 109, 45, 107, 32, 116, 32, 122]
def hdPat3 : List UInt8 := [119, 32, 109, 32, 98, 32, 116, 32, 121]
def nearI (two year : Int) : Int := year + 50 - ((year + 50 - two).tmod 100 + 100).tmod 100
theorem word_hit {l : List (List UInt8)} {s : List UInt8} {k : Nat} (hk : k < l.length) (hn : (l.take k).any (fun w => Lib.hasPrefix s w) = false) (h : Lib.hasPrefix s (l.getD k []) = true) : wHit l s = true ∧ wIx l s = k := by
  have hit := idxP_hit (p := fun w => Lib.hasPrefix s w) (l := l) [] hk hn h
  have hany : l.any (fun w => Lib.hasPrefix s w) = true := by rw [← idxP_ge, hit]; omega
  refine ⟨hany, ?_⟩
  unfold idxP at hit
  rw [if_pos hany] at hit
  unfold wIx; omega
theorem prefix_len {s w : List UInt8} (h : Lib.hasPrefix s w = true) : w.length ≤ s.length := by
  have := List.isPrefixOf_iff_prefix.1 (show w.isPrefixOf s = true from h)
  exact this.length_le
theorem wdS_len (l : List (List UInt8)) (s : List UInt8) : (wdS l s).length ≤ s.length := by
  unfold wdS; split <;> simp
theorem nmS_len (w : Nat) (s : List UInt8) : (nmS w s).length ≤ s.length := by
  unfold nmS; split <;> simp
theorem blS_len (s : List UInt8) : (blS s).length ≤ s.length := by
  unfold blS; split <;> simp
theorem wdN_range (l : List (List UInt8)) (s : List UInt8) : 0 ≤ wdN l s ∧ wdN l s ≤ l.length := by
  unfold wdN
  split
  · have : wIx l s ≤ l.length := List.findIdx_le_length
    omega
  · omega
theorem partS_len (c : UInt8) (p : Rd) : (partS c p).s.length ≤ p.s.length := by
  unfold partS
  have h1 := nmS_len 2 p.s
  have h2 := wdS_len [[58]] (nmS 2 p.s)
  have h3 := nmS_len 2 (wdS [[58]] (nmS 2 p.s))
  have h4 := wdS_len [[58]] (nmS 2 (wdS [[58]] (nmS 2 p.s)))
  have h5 := nmS_len 2 (wdS [[58]] (nmS 2 (wdS [[58]] (nmS 2 p.s))))
  have h6 := nmS_len (blW p.s) (blS p.s)
  have h7 := blS_len p.s
  have h8 := nmS_len 4 p.s
  (repeat' split) <;> simp only [Rd.word, Rd.num] <;> first | exact wdS_len _ _ | omega
end Go.Mdl
end
section
set_option linter.unusedVariables false
set_option linter.unusedSimpArgs false
namespace Go.Proofs.Tryz.Dig
open Go Go.Abs Go.Proofs Go.Mdl
def T_specDigit : Tbl := fun g E args => nilT g E args
theorem T_specDigit_ok : TblOK Tryz.prog T_specDigit := nilT_ok
set_option maxRecDepth 100000 in
set_option maxHeartbeats 4000000 in
theorem specDigit (r : Int) : SpecE Tryz.prog 188 [] [.int .i32 r] [] (.int .i64 (digI r)) := by
  refine specF0 (C := T_specDigit) (wr := false) (D := fun _ => []) (U := fun _ => none) (res := [.int .i64 (digI r)]) Tryz.Ty.mixed T_specDigit_ok Tryz.func188 (nA := 1) (by decide +kernel) rfl (fun _ => rfl) ?_
  simp only [Tryz.f188, bodyOf, rlOf]
  rw [W_V]
  simp (config := {maxSteps := 2000000}) only [T_specDigit, go_sem, seval]
  (try simp (config := {maxSteps := 2000000}) only [gimp, impB, isT, go_sem, seval])
  simp only [digI]
  (try simp only [Bool.and_eq_false_iff, Bool.or_eq_false_iff, Bool.and_eq_true, Bool.or_eq_true, decide_eq_false_iff_not, decide_eq_true_eq] at *)
  (repeat' (first | apply And.intro | intro _))
  all_goals (first | omega | ((repeat' split) <;> (first | omega | rfl | skip)))
def tb_specDigit : List Blk → List AV → Option (List Blk × AV × Prop)
  | [], [.int .i32 r] => some ([], .int .i64 (digI r), True)
  | _, _ => none
theorem tb_specDigit_ok : ∀ E args E' res p, tb_specDigit E args = some (E', res, p) → p → SpecE Tryz.prog 188 E args E' res := by
  intro E args E' res p h hp
  unfold tb_specDigit at h
  split at h
  · simp only [Option.some.injEq, Prod.mk.injEq] at h
    obtain ⟨rfl, rfl, rfl⟩ := h
    exact (specDigit _)
  · cases h
def T_specValueR : Tbl := fun g E args => nilT g E args
theorem T_specValueR_ok : TblOK Tryz.prog T_specValueR := nilT_ok
set_option maxRecDepth 100000 in
set_option maxHeartbeats 4000000 in
theorem specValueR (c : UInt8) : SpecE Tryz.prog 151 [] [enc_u8 c] [] (.int .i64 (refDig c)) := by
  refine specF0 (C := T_specValueR) (wr := false) (D := fun _ => []) (U := fun _ => none) (res := [.int .i64 (refDig c)]) Tryz.Ty.mixed T_specValueR_ok Tryz.func151 (nA := 1) (by decide +kernel) rfl (fun _ => rfl) ?_
  simp only [Tryz.f151, bodyOf, rlOf]
  rw [W_V]
  simp (config := {maxSteps := 2000000}) only [T_specValueR, go_sem, seval]
  (try simp (config := {maxSteps := 2000000}) only [gimp, impB, isT, go_sem, seval])
  have hc := c.toNat_lt
  simp only [refDig, digB, digI]
  (try simp only [Bool.and_eq_false_iff, Bool.or_eq_false_iff, Bool.and_eq_true, Bool.or_eq_true, decide_eq_false_iff_not, decide_eq_true_eq] at *)
  (repeat' (first | apply And.intro | intro _))
  all_goals (first | omega | ((repeat' split) <;> (first | omega | rfl | skip)))
def tb_specValueR : List Blk → List AV → Option (List Blk × AV × Prop)
  | [], [a0] => some ([], .int .i64 (refDig (dec_u8 a0)), argOK a0 (enc_u8 (dec_u8 a0)))
  | _, _ => none
theorem tb_specValueR_ok : ∀ E args E' res p, tb_specValueR E args = some (E', res, p) → p → SpecE Tryz.prog 151 E args E' res := by
  intro E args E' res p h hp
  unfold tb_specValueR at h
  split at h
  · simp only [Option.some.injEq, Prod.mk.injEq] at h
    obtain ⟨rfl, rfl, rfl⟩ := h
    exact SpecE.args (specValueR _) (.cons hp .nil)
  · cases h
def T_specNumber : Tbl := fun g E args => (addT nilT 188 Go.Proofs.Tryz.Dig.tb_specDigit) g E args
theorem T_specNumber_ok : TblOK Tryz.prog T_specNumber := (addT_ok nilT_ok (by decide +kernel) Go.Proofs.Tryz.Dig.tb_specDigit_ok)
set_option maxRecDepth 100000 in
set_option maxHeartbeats 4000000 in
theorem specNumber (s : List UInt8) (b most : Int) (hb : b = 10 ∨ b = 16) (hm : most ≤ 9223372036854775807) : SpecE Tryz.prog 162 [] [.str s, .int .i64 b, .int .i64 most] [] (.tuple [.int .i64 (numVal b most s), .int .i64 (numErr b most s)]) := by
  refine specF0 (C := T_specNumber) (wr := false) (D := fun _ => []) (U := fun _ => none) (res := [.int .i64 (numVal b most s), .int .i64 (numErr b most s)]) Tryz.Ty.mixed T_specNumber_ok Tryz.func162 (nA := 3) (by decide +kernel) rfl (fun _ => rfl) ?_
  simp only [Tryz.f162, bodyOf, rlOf]
  rw [W_V]
  simp (config := {maxSteps := 2000000}) only [T_specNumber, Go.Proofs.Tryz.Dig.tb_specDigit, go_sem, seval]
  (try simp (config := {maxSteps := 2000000}) only [gimp, impB, isT, go_sem, seval])
  refine ⟨fun h => by simp [numVal, numErr, h], fun h0 => ?_⟩
  refine VL_inv (X := Nat × Int × Bool) (fun x => ⟨[(0, .str s), (1, .int .i64 b), (2, .int .i64 most), (8, .int .i64 x.2.1), (9, .bool x.2.2), (16, .it 272)], [(272, .iter s x.1)]⟩)
    (fun x => x.1 ≤ s.length ∧ (s.take x.1).all (isDig b) = true ∧ (x.2.2 = true → most < numV b (s.take x.1)) ∧ (x.2.2 = false → x.2.1 = numV b (s.take x.1) ∧ (x.2.1 ≤ most ∨ x.1 = 0)))
    (fun x => s.length - x.1) (0, 0, false) ?_ ?_ ?_
  · simp only [go_sem, go_sem, seval]
    try rfl
  · exact ⟨Nat.zero_le _, by simp, by simp, fun _ => ⟨by simp [numV], .inr rfl⟩⟩
  rintro ⟨x, n, over⟩ ⟨hx, hd, ho, hn⟩
  simp only at hx hd ho hn
  simp (config := {maxSteps := 2000000}) only [T_specNumber, Go.Proofs.Tryz.Dig.tb_specDigit, go_sem, seval]
  (try simp (config := {maxSteps := 2000000}) only [gimp, impB, isT, go_sem, seval])
  have r1 := fun hlt : x < s.length => (dig_rune hlt).2.1
  have r2 := fun hlt : x < s.length => (dig_rune hlt).2.2
  refine ⟨fun hlt => ⟨hlt, fun hbad => ?_, fun h1 h2 => ?_⟩, fun hge => ?_⟩
  · rw [r1 hlt] at hbad
    have := num_bad (b := b) (most := most) hlt (by rw [← Bool.not_eq_true, isDig_iff]; omega)
    exact ⟨this.2.symm, this.1.symm⟩
  · rw [r2 hlt h1, if_pos hlt]
    rw [r1 hlt] at h1 h2 ⊢
    have hdig : isDig b (s.getD x 0) = true := (isDig_iff _ _).2 ⟨h1, h2⟩
    have htk := numV_take_succ b hlt
    have hall := (all_step hlt hd).1 hdig
    have hb1 : (1 : Int) ≤ b := by omega
    have hnn := numV_nonneg hb1 _ hd
    have hmono := numV_mono hb1 hd (t := [s.getD x 0]) (by simp only [List.all_cons, List.all_nil, Bool.and_true]; exact hdig)
    rw [← take_succ_getD 0 hlt] at hmono
    generalize digB (s.getD x 0) = d at *
    have ov := fun h => over_step (most := most) (n := n) (d := d) hb h h1
    have hz : x = 0 → n = 0 ∨ over = true := fun e => by
      cases over with
      | true => exact .inr rfl
      | false => left; rw [(hn rfl).1, e]; rfl
    refine ⟨⟨fun _ _ => by omega, fun _ _ => by omega⟩, ⟨fun _ _ => by omega, fun _ h3 => ?_, fun _ h3 => ?_⟩, fun h3 h4 h5 => ?_, fun h3 => ?_⟩
    · have := tdiv_range (b := b) (m := most - d) hb (by omega) (by omega); omega
    · exact (tdiv_range (b := b) (m := most - d) hb (by omega) (by omega)).2
    · obtain ⟨n1, n2⟩ := hn h3
      have h6 : ¬ (most < n * b + d) := by rw [← ov (by omega) h4]; omega
      have h7 : 0 ≤ n * b := Int.mul_nonneg (by omega) (by omega)
      refine ⟨by omega, by omega, (x + 1, n * b + d, false), ⟨⟨rfl, ?_⟩, rfl⟩, ⟨by omega, hall, fun h => by (cases h), fun _ => ⟨by rw [htk, n1], .inl (by simp only; omega)⟩⟩, by omega⟩
      simp only [h3, Bool.false_or, Bool.or_eq_false_iff, decide_eq_false_iff_not]; omega
    · have hov : most < numV b (s.take (x + 1)) := by
        rcases h3 with (h3 | h3) | h3
        · have := ho h3; omega
        · rw [htk]
          have := Int.mul_nonneg hnn (show 0 ≤ b by omega)
          omega
        · by_cases h4 : d ≤ most
          · cases hov : over with
            | true => have := ho hov; omega
            | false =>
              obtain ⟨n1, n2⟩ := hn hov
              rw [ov (by omega) h4] at h3
              rw [htk, ← n1]; exact h3
          · rw [htk]
            have := Int.mul_nonneg hnn (show 0 ≤ b by omega)
            omega
      refine ⟨(x + 1, n, true), ⟨⟨rfl, ?_⟩, rfl⟩, ⟨by omega, hall, fun _ => hov, fun h => by (cases h)⟩, by omega⟩
      simp only [Bool.or_eq_true, decide_eq_true_eq]; exact h3
  · have : x = s.length := by omega
    subst this
    rw [List.take_length] at hd ho hn
    refine ⟨fun h => ?_, fun h => ?_⟩
    · have := num_over h0 hd (ho h); exact ⟨this.2.symm, this.1.symm⟩
    · obtain ⟨n1, n2⟩ := hn h
      have hl : s.length ≠ 0 := fun e => h0 (List.length_eq_zero_iff.1 e)
      have := num_good (most := most) h0 hd (by omega)
      exact ⟨by rw [this.2, n1], this.1.symm⟩
def tb_specNumber : List Blk → List AV → Option (List Blk × AV × Prop)
  | [], [.str s, .int .i64 b, .int .i64 most] => some ([], .tuple [.int .i64 (numVal b most s), .int .i64 (numErr b most s)], (b = 10 ∨ b = 16) ∧ (most ≤ 9223372036854775807))
  | _, _ => none
theorem tb_specNumber_ok : ∀ E args E' res p, tb_specNumber E args = some (E', res, p) → p → SpecE Tryz.prog 162 E args E' res := by
  intro E args E' res p h hp
  unfold tb_specNumber at h
  split at h
  · simp only [Option.some.injEq, Prod.mk.injEq] at h
    obtain ⟨rfl, rfl, rfl⟩ := h
    exact (specNumber _ _ _ hp.1 hp.2)
  · cases h
def T_specDec : Tbl := fun g E args => (addT nilT 162 Go.Proofs.Tryz.Dig.tb_specNumber) g E args
theorem T_specDec_ok : TblOK Tryz.prog T_specDec := (addT_ok nilT_ok (by decide +kernel) Go.Proofs.Tryz.Dig.tb_specNumber_ok)
set_option maxRecDepth 100000 in
set_option maxHeartbeats 4000000 in
theorem specDec (s : List UInt8) (most : Int) (hm : most ≤ 9223372036854775807) : SpecE Tryz.prog 121 [] [.str s, .int .i64 most] [] (.tuple [.int .i64 (numVal 10 most s), .int .i64 (numErr 10 most s)]) := by
  refine specF0 (C := T_specDec) (wr := false) (D := fun _ => []) (U := fun _ => none) (res := [.int .i64 (numVal 10 most s), .int .i64 (numErr 10 most s)]) Tryz.Ty.mixed T_specDec_ok Tryz.func121 (nA := 2) (by decide +kernel) rfl (fun _ => rfl) ?_
  simp only [Tryz.f121, bodyOf, rlOf]
  rw [W_V]
  simp (config := {maxSteps := 2000000}) only [T_specDec, Go.Proofs.Tryz.Dig.tb_specNumber, go_sem, seval]
  (try simp (config := {maxSteps := 2000000}) only [gimp, impB, isT, go_sem, seval])
  exact hm
def tb_specDec : List Blk → List AV → Option (List Blk × AV × Prop)
  | [], [.str s, .int .i64 most] => some ([], .tuple [.int .i64 (numVal 10 most s), .int .i64 (numErr 10 most s)], (most ≤ 9223372036854775807))
  | _, _ => none
theorem tb_specDec_ok : ∀ E args E' res p, tb_specDec E args = some (E', res, p) → p → SpecE Tryz.prog 121 E args E' res := by
  intro E args E' res p h hp
  unfold tb_specDec at h
  split at h
  · simp only [Option.some.injEq, Prod.mk.injEq] at h
    obtain ⟨rfl, rfl, rfl⟩ := h
    exact (specDec _ _ hp)
  · cases h
def T_specNumberR : Tbl := fun g E args => (addT nilT 151 Go.Proofs.Tryz.Dig.tb_specValueR) g E args
theorem T_specNumberR_ok : TblOK Tryz.prog T_specNumberR := (addT_ok nilT_ok (by decide +kernel) Go.Proofs.Tryz.Dig.tb_specValueR_ok)
set_option maxRecDepth 100000 in
set_option maxHeartbeats 4000000 in
theorem specNumberR (s : List UInt8) (b most : Int) (hb : b = 10 ∨ b = 16) (hm : most ≤ 9223372036854775807) (hs : s.length ≤ 1000000) : SpecE Tryz.prog 109 [] [.str s, .int .i64 b, .int .i64 most] [] (.tuple [.int .i64 (numVal b most s), .int .i64 (numErr b most s)]) := by
  refine specF0 (C := T_specNumberR) (wr := false) (D := fun _ => []) (U := fun _ => none) (res := [.int .i64 (numVal b most s), .int .i64 (numErr b most s)]) Tryz.Ty.mixed T_specNumberR_ok Tryz.func109 (nA := 3) (by decide +kernel) rfl (fun _ => rfl) ?_
  simp only [Tryz.f109, bodyOf, rlOf]
  rw [W_V]
  simp (config := {maxSteps := 2000000}) only [T_specNumberR, Go.Proofs.Tryz.Dig.tb_specValueR, go_sem, seval]
  (try simp (config := {maxSteps := 2000000}) only [gimp, impB, isT, go_sem, seval])
  refine ⟨fun h => ?_, fun h0 => ?_⟩
  · have : s = [] := List.length_eq_zero_iff.1 (by omega)
    simp [numVal, numErr, this]
  have hb1 : (1 : Int) ≤ b := by omega
  have hne : ¬ s = [] := fun e => h0 (by simp [e])
  refine VL_inv (X := Nat) (fun x => ⟨[(0, .str s), (1, .int .i64 b), (2, .int .i64 most), (8, .int .i64 x)], []⟩) (fun x => x ≤ s.length ∧ (s.take x).all (isDig b) = true) (fun x => s.length - x) 0 ?_ ?_ ?_
  · simp only [go_sem, go_sem, seval]
    try rfl
  · exact ⟨Nat.zero_le _, by simp⟩
  rintro x ⟨hx, hd⟩
  simp (config := {maxSteps := 2000000}) only [T_specNumberR, Go.Proofs.Tryz.Dig.tb_specValueR, go_sem, seval]
  (try simp (config := {maxSteps := 2000000}) only [gimp, impB, isT, go_sem, seval])
  refine ⟨fun hlt => ⟨by omega, fun hbad => ?_, fun hgood => ⟨by omega, x + 1, by omega, ⟨by omega, ?_⟩, by omega⟩⟩, fun hge => ?_⟩
  · have := num_bad (b := b) (most := most) (by omega) ((refDig_ge hb _).1 hbad)
    exact ⟨this.2.symm, this.1.symm⟩
  · exact (all_step (by omega) hd).1 ((refDig_lt hb _).1 hgood)
  have : x = s.length := by omega
  subst this
  rw [List.take_length] at hd
  refine VL_inv (X := List UInt8) (fun t => ⟨[(0, .str t), (1, .int .i64 b), (2, .int .i64 most)], []⟩) (fun t => t.length ≤ s.length ∧ 1 ≤ t.length ∧ t.all (isDig b) = true ∧ numV b t = numV b s) (fun t => t.length) s ?_ ?_ ?_
  · simp only [go_sem, go_sem, seval]
    try rfl
  · exact ⟨Nat.le_refl _, by omega, hd, rfl⟩
  rintro t ⟨t1, t2, t3, t4⟩
  simp (config := {maxSteps := 2000000}) only [T_specNumberR, Go.Proofs.Tryz.Dig.tb_specValueR, go_sem, seval]
  (try simp (config := {maxSteps := 2000000}) only [gimp, impB, isT, go_sem, seval])
  refine ⟨fun h => by omega, fun h1 h2 => ⟨by omega, _, rfl, ⟨by simp; omega, by simp; omega, all_drop 1 t3, by rw [numV_zero t2 h2, t4]⟩, by simp; omega⟩, fun h => ⟨fun hl => ?_, fun hl => ?_⟩⟩
  · have h48 : t.getD 0 0 ≠ 48 := by
      intro e
      have e1 : decide (1 < (t.length : Int)) = true := decide_eq_true (by omega)
      rw [e1, e] at h; simp at h
    have g1 := numV_great hb1 t3 t2 h48
    have g2 := pow_19 (n := t.length - 1) hb (by omega)
    have := num_over (most := most) hne hd (by omega)
    exact ⟨this.2.symm, this.1.symm⟩
  refine VL_inv (X := Nat × Int) (fun x => ⟨[(0, .str t), (1, .int .i64 b), (2, .int .i64 most), (9, .int .u64 x.2), (10, .int .i64 x.1)], []⟩) (fun x => x.1 ≤ t.length ∧ x.2 = numV b (t.take x.1) ∧ x.2 ≤ 18446744073709551615) (fun x => t.length - x.1) (0, 0) ?_ ?_ ?_
  · simp only [go_sem, go_sem, seval]
    try rfl
  · exact ⟨Nat.zero_le _, by simp [numV], by simp⟩
  rintro ⟨x, n⟩ ⟨hx', hn0, hn⟩
  simp only at hx' hn0 hn
  subst hn0
  simp (config := {maxSteps := 2000000}) only [T_specNumberR, Go.Proofs.Tryz.Dig.tb_specValueR, go_sem, seval]
  (try simp (config := {maxSteps := 2000000}) only [gimp, impB, isT, go_sem, seval])
  have hnn := numV_nonneg hb1 _ (all_take x t3)
  refine ⟨fun hlt => ?_, fun hge => ?_⟩
  · have hxl : x < t.length := by omega
    have hdig := all_get t3 hxl
    have hd2 := (isDig_iff _ _).1 hdig
    have htk := numV_take_succ b hxl
    have hle := numV_take_le hb1 t3 (x + 1)
    rw [refDig_of hdig]
    generalize digB (t.getD x 0) = d at *
    refine ⟨fun hbig => ?_, fun hsm => ?_⟩
    · have : most < numV b s := by
        rw [← t4]
        rcases hb with rfl | rfl <;> omega
      have := num_over (most := most) hne hd this
      exact ⟨this.2.symm, this.1.symm⟩
    · have hmul : 0 ≤ numV b (t.take x) * b ∧ numV b (t.take x) * b ≤ 18446744073709551600 := by rcases hb with rfl | rfl <;> omega
      exact ⟨by omega, by omega, by omega, by omega, by omega, by omega, (x + 1, numV b (t.take x) * b + d), ⟨rfl, by simp⟩, ⟨by simp only; omega, by rw [htk], by simp only; omega⟩, by simp only; omega⟩
  · have : x = t.length := by omega
    subst this
    rw [List.take_length, t4]
    refine ⟨fun _ => by omega, fun h => ?_, fun h1 h2 => ?_⟩
    · have hnn' := numV_nonneg hb1 _ hd
      have := num_over (most := most) hne hd (by omega)
      exact ⟨this.2.symm, this.1.symm⟩
    · have hnn' := numV_nonneg hb1 _ hd
      have := num_good (most := most) hne hd h2
      exact ⟨by omega, this.2.symm, this.1.symm⟩
def tb_specNumberR : List Blk → List AV → Option (List Blk × AV × Prop)
  | [], [.str s, .int .i64 b, .int .i64 most] => some ([], .tuple [.int .i64 (numVal b most s), .int .i64 (numErr b most s)], (b = 10 ∨ b = 16) ∧ (most ≤ 9223372036854775807) ∧ (s.length ≤ 1000000))
  | _, _ => none
theorem tb_specNumberR_ok : ∀ E args E' res p, tb_specNumberR E args = some (E', res, p) → p → SpecE Tryz.prog 109 E args E' res := by
  intro E args E' res p h hp
  unfold tb_specNumberR at h
  split at h
  · simp only [Option.some.injEq, Prod.mk.injEq] at h
    obtain ⟨rfl, rfl, rfl⟩ := h
    exact (specNumberR _ _ _ hp.1 hp.2.1 hp.2.2)
  · cases h
def T_specFigures : Tbl := fun g E args => nilT g E args
theorem T_specFigures_ok : TblOK Tryz.prog T_specFigures := nilT_ok
set_option maxRecDepth 100000 in
set_option maxHeartbeats 4000000 in
theorem specFigures (n b : Int) (hn : inR .i64 n) (hb : b = 10 ∨ b = 16) : SpecE Tryz.prog 142 [] [.int .i64 n, .int .i64 b] [] (.str (digs b.toNat n.natAbs)) := by
  refine specF0 (C := T_specFigures) (wr := false) (D := fun _ => []) (U := fun _ => none) (res := [.str (digs b.toNat n.natAbs)]) Tryz.Ty.mixed T_specFigures_ok Tryz.func142 (nA := 2) (by decide +kernel) rfl (fun _ => rfl) ?_
  simp only [Tryz.f142, bodyOf, rlOf]
  rw [W_V]
  simp (config := {maxSteps := 2000000}) only [T_specFigures, go_sem, seval]
  (try simp (config := {maxSteps := 2000000}) only [gimp, impB, isT, go_sem, seval])
  refine VL_inv (X := Int × Nat × List UInt8) (fun x => ⟨[(0, .int .i64 x.1), (1, .int .i64 b), (5, .ptr 96 0 0 64), (6, .int .i64 x.2.1)], [(96, .cells 1 false (.int .u8 0) (x.2.2.map byteAV))]⟩)
    (fun x => x.2.2.length = 64 ∧ x.2.1 ≤ 64 ∧ x.1.natAbs < 2 ^ x.2.1 ∧ x.1.natAbs ≤ 9223372036854775808 ∧ inR .i64 x.1 ∧ (if x.1 = 0 ∧ x.2.1 < 64 then [] else digs b.toNat x.1.natAbs) ++ x.2.2.drop x.2.1 = digs b.toNat n.natAbs) (fun x => x.2.1) (n, 64, List.replicate 64 0) ?_ ?_ ?_
  · simp only [go_sem, go_sem, seval]
    try rfl
  · simp only [inR] at hn
    refine ⟨by simp, Nat.le_refl _, ?_, by simp only; omega, hn, by simp⟩
    have : (2 : Nat) ^ 64 = 18446744073709551616 := by decide
    simp only; omega
  rintro ⟨m, at', l⟩ ⟨i1, i2, i3, i4, i5, i6⟩
  simp only at i1 i2 i3 i4 i5 i6
  simp (config := {maxSteps := 2000000}) only [T_specFigures, go_sem, seval]
  (try simp (config := {maxSteps := 2000000}) only [gimp, impB, isT, go_sem, seval])
  have hB : b.toNat = 10 ∨ b.toNat = 16 := by omega
  have hbn : b.natAbs = b.toNat := by omega
  have e1 : (m.tmod b).natAbs = m.natAbs % b.toNat := by rw [Int.natAbs_tmod, hbn]
  have e2 : (m.tdiv b).natAbs = m.natAbs / b.toNat := by rw [Int.natAbs_tdiv, hbn]; rfl
  have e3 := max_abs (m.tmod b)
  rw [e1] at e3
  rw [e3]
  simp only [Int.toNat_natCast, Nat.zero_add, i1]
  simp only [inR] at i5
  have hmod : m.natAbs % b.toNat < 16 := by
    have := Nat.mod_lt m.natAbs (show b.toNat > 0 by omega)
    omega
  have hdiv : m.natAbs / b.toNat ≤ m.natAbs / 10 := Nat.div_le_div_left (by omega) (by omega)
  refine ⟨fun hc => ?_, fun h64 hm0 => ⟨⟨trivial, trivial, by omega, by omega⟩, trivial, ?_⟩⟩
  · have hat : 1 ≤ at' := by
      rcases Nat.eq_zero_or_pos at' with h0 | h0
      · subst h0; simp at i3; omega
      · exact h0
    have hcond : ¬ (m = 0 ∧ at' < 64) := by omega
    rw [if_neg hcond] at i6
    refine ⟨by omega, by omega, by omega, by omega, ⟨trivial, by omega, by omega⟩, ⟨trivial, by omega⟩, ⟨by omega, by omega⟩, (m.tdiv b, at' - 1, l.set (at' - 1) (signN (m.natAbs % b.toNat))), ⟨⟨rfl, by simp only; omega⟩, ?_⟩, ⟨by simp [i1], by simp only; omega, ?_, by simp only; omega, by simp only; omega, ?_⟩, by simp only; omega⟩
    · rw [List.map_set]; rfl
    · simp only
      rw [e2]
      exact half_lt (by omega) (by rw [show at' - 1 + 1 = at' by omega]; exact i3)
    · simp only
      rw [drop_set_at (by omega), show at' - 1 + 1 = at' by omega, ← i6, e2]
      by_cases hsm : m.natAbs < b.toNat
      · have h0 : m.natAbs / b.toNat = 0 := Nat.div_eq_of_lt hsm
        have hz : m.tdiv b = 0 := by omega
        rw [if_pos ⟨hz, by omega⟩, digs_small hsm, Nat.mod_eq_of_lt hsm]
        rfl
      · have h1 : 1 ≤ m.natAbs / b.toNat := (Nat.le_div_iff_mul_le (by omega)).2 (by omega)
        rw [if_neg (by omega), digs_step (n := m.natAbs) (by omega) (by omega) (by omega)]
        simp
  · rw [if_pos ⟨hm0, by omega⟩] at i6
    rw [← i6]
    exact List.take_of_length_le (by simp; omega)
def tb_specFigures : List Blk → List AV → Option (List Blk × AV × Prop)
  | [], [.int .i64 n, .int .i64 b] => some ([], .str (digs b.toNat n.natAbs), (inR .i64 n) ∧ (b = 10 ∨ b = 16))
  | _, _ => none
theorem tb_specFigures_ok : ∀ E args E' res p, tb_specFigures E args = some (E', res, p) → p → SpecE Tryz.prog 142 E args E' res := by
  intro E args E' res p h hp
  unfold tb_specFigures at h
  split at h
  · simp only [Option.some.injEq, Prod.mk.injEq] at h
    obtain ⟨rfl, rfl, rfl⟩ := h
    exact (specFigures _ _ hp.1 hp.2)
  · cases h
def T_specDigitsR : Tbl := fun g E args => nilT g E args
theorem T_specDigitsR_ok : TblOK Tryz.prog T_specDigitsR := nilT_ok
set_option maxRecDepth 100000 in
set_option maxHeartbeats 4000000 in
theorem specDigitsR (n b : Int) (hn : 0 ≤ n ∧ n ≤ 18446744073709551615) (hb : b = 10 ∨ b = 16) : SpecE Tryz.prog 147 [] [.int .u64 n, .int .u64 b] [] (.str (digs b.toNat n.natAbs)) := by
  refine specF0 (C := T_specDigitsR) (wr := false) (D := fun i => []) (U := fun _ => none) (res := [.str (digs b.toNat n.natAbs)]) Tryz.Ty.mixed T_specDigitsR_ok Tryz.func147 (nA := 2) (by decide +kernel) rfl (fun _ => rfl) ?_
  simp only [Tryz.f147, bodyOf, rlOf]
  rw [W_V]
  simp (config := {maxSteps := 2000000}) only [T_specDigitsR, go_sem, seval]
  (try simp (config := {maxSteps := 2000000}) only [gimp, impB, isT, go_sem, seval])
  refine VL_inv (X := Nat × List UInt8) (fun x => ⟨[(0, .int .u64 x.1), (1, .int .u64 b), (5, .str [48, 49, 50, 51, 52, 53, 54, 55, 56, 57, 97, 98, 99, 100, 101, 102]), (6, .str x.2)], []⟩)
    (fun x => x.1 ≤ n.natAbs ∧ digs b.toNat x.1 ++ x.2 = digs b.toNat n.natAbs) (fun x => x.1) (n.natAbs, []) ?_ ?_ ?_
  · simp only [go_sem, go_sem, seval]
    try (exact ⟨by omega, rfl⟩)
    try omega
  · exact ⟨Nat.le_refl _, by simp⟩
  rintro ⟨m, out⟩ ⟨i1, i3⟩
  simp only at i1 i3
  simp (config := {maxSteps := 2000000}) only [T_specDigitsR, go_sem, seval]
  (try simp (config := {maxSteps := 2000000}) only [gimp, impB, isT, go_sem, seval])
  have hB : b.toNat = 10 ∨ b.toNat = 16 := by omega
  have i2 : out.length ≤ 70 := by
    have := digs_len b.toNat n.natAbs
    rw [← i3] at this
    simp at this; omega
  obtain ⟨e1, e2⟩ := tmod_nat hb m
  rw [e1, e2]
  have hlt := Nat.mod_lt m (show b.toNat > 0 by omega)
  have hle : m / b.toNat ≤ m / 10 := Nat.div_le_div_left (by omega) (by omega)
  have hq : (0 : Int) ≤ ((m / b.toNat : Nat) : Int) := Int.natCast_nonneg _
  have e3 : (((m % b.toNat : Nat) : Int) + 1).toNat = m % b.toNat + 1 := by omega
  have e4 := sign_slice (m % b.toNat) (by omega)
  simp only [sign16] at e4
  rw [e3, Int.toNat_natCast, e4]
  refine ⟨fun h => ⟨by omega, by omega, by omega, by omega, by simp only [List.length_cons, List.length_nil]; omega, by omega, (m / b.toNat, [signN (m % b.toNat)] ++ out), ⟨rfl, rfl⟩, ⟨by simp only; omega, ?_⟩, by simp only; omega⟩, fun h => ⟨by omega, by omega, ?_, ?_⟩⟩
  · rw [← i3, digs_step (n := m) (by omega) (by omega) (by omega)]
    simp
  · rw [sign_slice' m (by omega)]; simp only [List.length_cons, List.length_nil]; omega
  · rw [sign_slice' m (by omega), ← i3, digs_small (by omega)]
def tb_specDigitsR : List Blk → List AV → Option (List Blk × AV × Prop)
  | [], [.int .u64 n, .int .u64 b] => some ([], .str (digs b.toNat n.natAbs), (0 ≤ n ∧ n ≤ 18446744073709551615) ∧ (b = 10 ∨ b = 16))
  | _, _ => none
theorem tb_specDigitsR_ok : ∀ E args E' res p, tb_specDigitsR E args = some (E', res, p) → p → SpecE Tryz.prog 147 E args E' res := by
  intro E args E' res p h hp
  unfold tb_specDigitsR at h
  split at h
  · simp only [Option.some.injEq, Prod.mk.injEq] at h
    obtain ⟨rfl, rfl, rfl⟩ := h
    exact (specDigitsR _ _ hp.1 hp.2)
  · cases h
def T_specText : Tbl := fun g E args => (addT nilT 142 Go.Proofs.Tryz.Dig.tb_specFigures) g E args
theorem T_specText_ok : TblOK Tryz.prog T_specText := (addT_ok nilT_ok (by decide +kernel) Go.Proofs.Tryz.Dig.tb_specFigures_ok)
set_option maxRecDepth 100000 in
set_option maxHeartbeats 4000000 in
theorem specText (n : Int) (hn : inR .i64 n) : SpecE Tryz.prog 98 [] [.int .i64 n] [] (.str (textI n)) := by
  refine specF0 (C := T_specText) (wr := false) (D := fun _ => []) (U := fun _ => none) (res := [.str (textI n)]) Tryz.Ty.mixed T_specText_ok Tryz.func98 (nA := 1) (by decide +kernel) rfl (fun _ => rfl) ?_
  simp only [Tryz.f98, bodyOf, rlOf]
  rw [W_V]
  simp (config := {maxSteps := 2000000}) only [T_specText, Go.Proofs.Tryz.Dig.tb_specFigures, go_sem, seval]
  (try simp (config := {maxSteps := 2000000}) only [gimp, impB, isT, go_sem, seval])
  simp only [inR] at hn
  have := digs_len 10 n.natAbs
  refine ⟨fun h => ⟨hn, by omega, by simp [textI, h]⟩, fun h => ⟨hn, by simp [textI, Int.not_lt.2 h]⟩⟩
def tb_specText : List Blk → List AV → Option (List Blk × AV × Prop)
  | [], [.int .i64 n] => some ([], .str (textI n), (inR .i64 n))
  | _, _ => none
theorem tb_specText_ok : ∀ E args E' res p, tb_specText E args = some (E', res, p) → p → SpecE Tryz.prog 98 E args E' res := by
  intro E args E' res p h hp
  unfold tb_specText at h
  split at h
  · simp only [Option.some.injEq, Prod.mk.injEq] at h
    obtain ⟨rfl, rfl, rfl⟩ := h
    exact (specText _ hp)
  · cases h
def T_specTextR : Tbl := fun g E args => (addT nilT 147 Go.Proofs.Tryz.Dig.tb_specDigitsR) g E args
theorem T_specTextR_ok : TblOK Tryz.prog T_specTextR := (addT_ok nilT_ok (by decide +kernel) Go.Proofs.Tryz.Dig.tb_specDigitsR_ok)
set_option maxRecDepth 100000 in
set_option maxHeartbeats 4000000 in
theorem specTextR (n : Int) (hn : inR .i64 n) : SpecE Tryz.prog 102 [] [.int .i64 n] [] (.str (textI n)) := by
  refine specF0 (C := T_specTextR) (wr := false) (D := fun _ => []) (U := fun _ => none) (res := [.str (textI n)]) Tryz.Ty.mixed T_specTextR_ok Tryz.func102 (nA := 1) (by decide +kernel) rfl (fun _ => rfl) ?_
  simp only [Tryz.f102, bodyOf, rlOf]
  rw [W_V]
  simp (config := {maxSteps := 2000000}) only [T_specTextR, Go.Proofs.Tryz.Dig.tb_specDigitsR, go_sem, seval]
  (try simp (config := {maxSteps := 2000000}) only [gimp, impB, isT, go_sem, seval])
  simp only [inR] at hn
  have := digs_len 10 (0 - (n + 1) + 1).natAbs
  refine ⟨fun h => ⟨by omega, by omega, by omega, by omega, by omega, by omega, ?_⟩, fun h => ⟨by omega, by omega, by simp [textI, Int.not_lt.2 h]⟩⟩
  simp only [textI, if_pos h]
  rw [show (0 - (n + 1) + 1).natAbs = n.natAbs by omega]
def tb_specTextR : List Blk → List AV → Option (List Blk × AV × Prop)
  | [], [.int .i64 n] => some ([], .str (textI n), (inR .i64 n))
  | _, _ => none
theorem tb_specTextR_ok : ∀ E args E' res p, tb_specTextR E args = some (E', res, p) → p → SpecE Tryz.prog 102 E args E' res := by
  intro E args E' res p h hp
  unfold tb_specTextR at h
  split at h
  · simp only [Option.some.injEq, Prod.mk.injEq] at h
    obtain ⟨rfl, rfl, rfl⟩ := h
    exact (specTextR _ hp)
  · cases h
end Go.Proofs.Tryz.Dig
end
section
set_option linter.unusedVariables false
set_option linter.unusedSimpArgs false
namespace Go.Proofs.Tryz.Civil
open Go Go.Abs Go.Proofs
theorem mixed : Tryz.prog.follows .mixedOrders = true := by kernel_rfl
theorem uInt : Tryz.prog.underlying 3 = some (.int .i64) := Tryz.underlying3
theorem uBool : Tryz.prog.underlying 4 = some .bool := Tryz.underlying4
theorem szInt : szT Tryz.prog 3 = some 1 := by kernel_rfl
theorem aggInt : aggT Tryz.prog 3 = some false := by kernel_rfl
theorem zInt : zT Tryz.prog 3 = some (.int .i64 0) := by kernel_rfl
theorem zArr : zT Tryz.prog 189 = some (.agg (List.replicate 12 (.int .i64 0))) := by kernel_rfl
theorem szArr : szT Tryz.prog 189 = some 12 := by kernel_rfl
theorem aggArr : aggT Tryz.prog 189 = some true := by kernel_rfl
theorem uArr : Tryz.prog.underlying 189 = some (.array 12 3) := by kernel_rfl
theorem quo_nn {a : Int} (b : Int) (h : 0 ≤ a) : a.tdiv b = a / b := Int.tdiv_eq_ediv_of_nonneg h
theorem rem_nn {a : Int} (b : Int) (h : 0 ≤ a) : a.tmod b = a % b := Int.tmod_eq_emod_of_nonneg h
theorem rem_zero (a b : Int) : decide (a.tmod b = 0) = decide (a % b = 0) := by
  have : a.tmod b = 0 ↔ a % b = 0 := by rw [← Int.dvd_iff_tmod_eq_zero, Int.dvd_iff_emod_eq_zero]
  simp [this]
def leap (y : Int) : Bool := decide (y % 4 = 0) && (!decide (y % 100 = 0) || decide (y % 400 = 0))
theorem specLeap (y : Int) : SpecE Tryz.prog 213 [] [.int .i64 y] [] (.bool (leap y)) := by
  refine specF0 (C := nilT) (wr := false) (D := fun _ => []) (U := fun _ => none) (res := [.bool (leap y)]) mixed nilT_ok Tryz.func213 (nA := 1) (by decide +kernel) rfl (fun _ => rfl) ?_
  simp only [Tryz.f213, bodyOf, rlOf]
  rw [W_V]
  simp only [go_sem, go_sem, seval, uInt, uBool, leap, rem_zero]
  all_goals (by_cases h4 : y % 4 = 0 <;> by_cases h100 : y % 100 = 0 <;> simp [h4, h100])
theorem specLeapR (y : Int) : SpecE Tryz.prog 217 [] [.int .i64 y] [] (.bool (leap y)) := by
  refine specF0 (C := nilT) (wr := false) (D := fun _ => []) (U := fun _ => none) (res := [.bool (leap y)]) mixed nilT_ok Tryz.func217 (nA := 1) (by decide +kernel) rfl (fun _ => rfl) ?_
  simp only [Tryz.f217, bodyOf, rlOf]
  rw [W_V]
  simp only [go_sem, go_sem, seval, uInt, uBool, rem_zero, decide_eq_true_eq, decide_eq_false_iff_not]
  have e4 : y % 400 = 0 → y % 4 = 0 := by omega
  unfold leap
  by_cases h4 : y % 4 = 0 <;> by_cases h100 : y % 100 = 0 <;> by_cases h400 : y % 400 = 0 <;> simp_all
def lens : List Int := [31, 28, 31, 30, 31, 30, 31, 31, 30, 31, 30, 31]
theorem specLens : SpecE Tryz.prog 214 [] [] [] (.agg (lens.map (.int .i64))) := by
  refine specF0 (C := nilT) (wr := false) (D := fun _ => []) (U := fun _ => none) (res := [.agg (lens.map (.int .i64))]) mixed nilT_ok Tryz.func214 (nA := 0) (by decide +kernel) rfl (fun _ => rfl) ?_
  simp only [Tryz.f214, bodyOf, rlOf]
  rw [W_V]
  simp only [go_sem, go_sem, seval, uInt, uBool, uArr, szArr, aggArr, zArr, szInt, aggInt, zInt]
  exact ⟨rfl, by simp [idsOK, idsOKL, lens]⟩
def T1 : Tbl := fun g E args => addT (addT (addT nilT 213 (c1 .i64 (fun y => .bool (leap y)) (fun _ => True))) 217 (c1 .i64 (fun y => .bool (leap y)) (fun _ => True)))
  214 (c0 (.agg (lens.map (.int .i64))) True) g E args
theorem T1_ok : TblOK Tryz.prog T1 :=
  add0 (add1 (add1 nilT_ok (by decide +kernel) (fun y _ => specLeap y)) (by decide +kernel) (fun y _ => specLeapR y)) (by decide +kernel) (fun _ => specLens)
def long (y m : Int) : Int := if m < 1 ∨ 12 < m then 0 else if m = 2 ∧ leap y = true then 29 else lens.getD (m - 1).toNat 0
theorem specLong (y m : Int) : SpecE Tryz.prog 195 [] [.int .i64 y, .int .i64 m] [] (.int .i64 (long y m)) := by
  refine specF0 (C := T1) (wr := false) (D := fun _ => []) (U := fun _ => none) (res := [.int .i64 (long y m)]) mixed T1_ok Tryz.func195 (nA := 2) (by decide +kernel) rfl (fun _ => rfl) ?_
  simp only [Tryz.f195, bodyOf, rlOf]
  rw [W_V]
  simp only [T1, lens, go_sem, go_sem, seval, uInt, uBool, uArr, szArr, aggArr, zArr, szInt, aggInt, zInt]
  refine ⟨fun h => ?_, fun h h' => ⟨fun h2 h3 => ?_, fun h2 => ?_⟩⟩
  · unfold long; rw [if_pos h]
  · unfold long; rw [if_neg (by omega), if_pos ⟨h2, h3⟩]
  · have e : long y m = lens.getD (m - 1).toNat 0 := by
      unfold long; rw [if_neg (by omega), if_neg (by intro hh; simp [hh.1, hh.2] at h2)]
    rw [e]
    have : m = 1 ∨ m = 2 ∨ m = 3 ∨ m = 4 ∨ m = 5 ∨ m = 6 ∨ m = 7 ∨ m = 8 ∨ m = 9 ∨ m = 10 ∨ m = 11 ∨ m = 12 := by omega
    rcases this with rfl | rfl | rfl | rfl | rfl | rfl | rfl | rfl | rfl | rfl | rfl | rfl <;> simp [lens]
theorem specLongR (y m : Int) : SpecE Tryz.prog 204 [] [.int .i64 y, .int .i64 m] [] (.int .i64 (long y m)) := by
  refine specF0 (C := T1) (wr := false) (D := fun _ => []) (U := fun _ => none) (res := [.int .i64 (long y m)]) mixed T1_ok Tryz.func204 (nA := 2) (by decide +kernel) rfl (fun _ => rfl) ?_
  simp only [Tryz.f204, bodyOf, rlOf]
  rw [W_V]
  simp only [T1, lens, go_sem, go_sem, seval, uInt, uBool, uArr, szArr, aggArr, zArr, szInt, aggInt, zInt]
  unfold long
  refine ⟨fun h2 h3 => by rw [if_neg (by omega), if_pos ⟨h2, h3⟩], fun h => ⟨fun h2 => ?_, fun h2 => ⟨fun h3 => ?_, fun h3 h4 h5 h6 => ⟨fun h7 => by rw [if_pos h7], fun h7 h8 => ?_⟩⟩⟩⟩
  · subst h2; simp at h; simp [h, lens]
  · rcases h3 with ((h3 | h3) | h3) | h3 <;> subst h3 <;> simp [lens]
  · have : m = 1 ∨ m = 3 ∨ m = 5 ∨ m = 7 ∨ m = 8 ∨ m = 10 ∨ m = 12 := by omega
    rcases this with rfl | rfl | rfl | rfl | rfl | rfl | rfl <;> simp [lens]
def whole (y : Int) : Int := if leap y = true then 366 else 365
theorem specWhole (y : Int) : SpecE Tryz.prog 203 [] [.int .i64 y] [] (.int .i64 (whole y)) := by
  refine specF0 (C := T1) (wr := false) (D := fun _ => []) (U := fun _ => none) (res := [.int .i64 (whole y)]) mixed T1_ok Tryz.func203 (nA := 1) (by decide +kernel) rfl (fun _ => rfl) ?_
  simp only [Tryz.f203, bodyOf, rlOf]
  rw [W_V]
  simp only [T1, go_sem, go_sem, seval, uInt, uBool]
  unfold whole
  exact ⟨fun h => by rw [if_pos h], fun h => by rw [if_neg (by simp [h])]⟩
def T2 : Tbl := fun g E args => addT (addT (addT T1 195 (c2 (fun y m => .int .i64 (long y m)) (fun _ _ => True))) 204 (c2 (fun y m => .int .i64 (long y m)) (fun _ _ => True)))
  203 (c1 .i64 (fun y => .int .i64 (whole y)) (fun _ => True)) g E args
theorem T2_ok : TblOK Tryz.prog T2 :=
  add1 (add2 (add2 T1_ok (by decide +kernel) (fun y m _ => specLong y m)) (by decide +kernel) (fun y m _ => specLongR y m)) (by decide +kernel) (fun y _ => specWhole y)
def right (y m d : Int) : Bool := decide (1 ≤ y ∧ y ≤ 9999 ∧ 1 ≤ d ∧ d ≤ long y m)
theorem specRight (y m d : Int) : SpecE Tryz.prog 173 [] [.int .i64 y, .int .i64 m, .int .i64 d] [] (.bool (right y m d)) := by
  refine specF0 (C := T2) (wr := false) (D := fun _ => []) (U := fun _ => none) (res := [.bool (right y m d)]) mixed T2_ok Tryz.func173 (nA := 3) (by decide +kernel) rfl (fun _ => rfl) ?_
  simp only [Tryz.f173, bodyOf, rlOf]
  rw [W_V]
  simp only [T2, T1, go_sem, go_sem, seval, uInt, uBool]
  simp [right, Bool.and_assoc]
def dby (y : Int) : Int := 365 * (y - 1) + (y - 1) / 4 - (y - 1) / 100 + (y - 1) / 400
def cumL : List Int := [0, 0, 31, 59, 90, 120, 151, 181, 212, 243, 273, 304, 334, 365]
def cum (y m : Int) : Int := cumL.getD m.toNat 0 + if 2 < m ∧ leap y = true then 1 else 0
def dayNo (y m d : Int) : Int := dby y + cum y m + d - 1 - 719162
def dayAns (y m d : Int) : Int := if right y m d = true then dayNo y m d else 0
theorem dby_whole (y : Int) : dby (y + 1) = dby y + whole y := by
  unfold dby whole leap
  by_cases h4 : y % 4 = 0 <;> by_cases h100 : y % 100 = 0 <;> by_cases h400 : y % 400 = 0 <;> simp [h4, h100, h400] <;> omega
def T3 : Tbl := fun g E args => addT T2 173 (c3 (fun y m d => .bool (right y m d)) (fun _ _ _ => True)) g E args
theorem T3_ok : TblOK Tryz.prog T3 := add3 T2_ok (by decide +kernel) (fun y m d _ => specRight y m d)
theorem right_iff {y m d : Int} : right y m d = true ↔ 1 ≤ y ∧ y ≤ 9999 ∧ 1 ≤ d ∧ d ≤ long y m := by simp [right]
theorem long_le (y m : Int) : long y m ≤ 31 ∧ 0 ≤ long y m ∧ (1 ≤ long y m → 1 ≤ m ∧ m ≤ 12) := by
  unfold long
  split
  · omega
  · split
    · omega
    · have : m = 1 ∨ m = 2 ∨ m = 3 ∨ m = 4 ∨ m = 5 ∨ m = 6 ∨ m = 7 ∨ m = 8 ∨ m = 9 ∨ m = 10 ∨ m = 11 ∨ m = 12 := by omega
      rcases this with rfl | rfl | rfl | rfl | rfl | rfl | rfl | rfl | rfl | rfl | rfl | rfl <;> simp [lens]
theorem right_bounds {y m d : Int} (h : right y m d = true) : 1 ≤ y ∧ y ≤ 9999 ∧ 1 ≤ m ∧ m ≤ 12 ∧ 1 ≤ d ∧ d ≤ 31 := by
  have h1 := right_iff.1 h
  have h2 := long_le y m
  omega
theorem dby_eq (y : Int) : dby (y + 1) = y * 365 + y / 4 - y / 100 + y / 400 := by unfold dby; simp; omega
theorem day_early {y m d : Int} (hm : m = 1 ∨ m = 2) : (y - 1) * 365 + (y - 1) / 4 - (y - 1) / 100 + (y - 1) / 400 + (153 * (m + 9) + 2) / 5 + d - 1 - 719468 = dayNo y m d := by
  unfold dayNo
  rw [← dby_eq, show y - 1 + 1 = y by omega]
  rcases hm with rfl | rfl <;> simp [cum, cumL] <;> omega
theorem day_late {y m d : Int} (hm : 3 ≤ m ∧ m ≤ 12) : y * 365 + y / 4 - y / 100 + y / 400 + (153 * (m - 3) + 2) / 5 + d - 1 - 719468 = dayNo y m d := by
  unfold dayNo
  rw [← dby_eq, dby_whole]
  have : m = 3 ∨ m = 4 ∨ m = 5 ∨ m = 6 ∨ m = 7 ∨ m = 8 ∨ m = 9 ∨ m = 10 ∨ m = 11 ∨ m = 12 := by omega
  unfold whole
  by_cases hl : leap y = true
  · rcases this with rfl | rfl | rfl | rfl | rfl | rfl | rfl | rfl | rfl | rfl <;> simp [cum, cumL, hl] <;> omega
  · rcases this with rfl | rfl | rfl | rfl | rfl | rfl | rfl | rfl | rfl | rfl <;> simp [cum, cumL, hl] <;> omega
set_option maxRecDepth 100000 in
set_option maxHeartbeats 1000000 in
theorem specDays (y m d : Int) : SpecE Tryz.prog 136 [] [.int .i64 y, .int .i64 m, .int .i64 d] [] (.tuple [.int .i64 (dayAns y m d), .bool (right y m d)]) := by
  refine specF0 (C := T3) (wr := false) (D := fun _ => []) (U := fun _ => none) (res := [.int .i64 (dayAns y m d), .bool (right y m d)]) mixed T3_ok Tryz.func136 (nA := 3) (by decide +kernel) rfl (fun _ => rfl) ?_
  simp only [Tryz.f136, bodyOf, rlOf]
  rw [W_V]
  simp only [T3, T2, T1, go_sem, go_sem, seval, uInt, uBool]
  refine ⟨fun h => ⟨by simp [dayAns, h], h.symm⟩, fun h => ?_⟩
  have hr : right y m d = true := by simpa using h
  obtain ⟨h1, h2, h3, h4, h5, h6⟩ := right_bounds hr
  simp only [dayAns, hr, if_true]
  have e0 : (m + 9).tmod 12 = if m ≤ 2 then m + 9 else m - 3 := by
    rw [rem_nn _ (by omega)]; split <;> omega
  refine ⟨by omega, fun h10 => ?_, fun h10 => ?_⟩
  · have hm : m ≤ 2 := by rw [e0] at h10; split at h10 <;> omega
    rw [e0, if_pos hm, quo_nn 4 (by omega : 0 ≤ y - 1), quo_nn 100 (by omega : 0 ≤ y - 1), quo_nn 400 (by omega : 0 ≤ y - 1), quo_nn 5 (by omega : 0 ≤ 153 * (m + 9) + 2), ← day_early (y := y) (m := m) (d := d) (by omega)]
    and_intros <;> first | omega | trivial
  · have hm : ¬ m ≤ 2 := by rw [e0] at h10; split at h10 <;> omega
    rw [e0, if_neg hm, quo_nn 4 (by omega : 0 ≤ y), quo_nn 100 (by omega : 0 ≤ y), quo_nn 400 (by omega : 0 ≤ y), quo_nn 5 (by omega : 0 ≤ 153 * (m - 3) + 2), ← day_late (y := y) (m := m) (d := d) (by omega)]
    and_intros <;> first | omega | trivial
theorem dby_1970 : dby 1970 = 719162 := by decide
theorem whole_bounds (y : Int) : 365 ≤ whole y ∧ whole y ≤ 366 := by unfold whole; split <;> omega
theorem dby_bounds {y : Int} (h : 1 ≤ y ∧ y ≤ 10000) : 0 ≤ dby y ∧ dby y ≤ 3660000 := by unfold dby; omega
theorem cum_1 (y : Int) : cum y 1 = 0 := by simp [cum, cumL]
theorem cum_step {y m : Int} (h : 1 ≤ m ∧ m ≤ 12) : cum y (m + 1) = cum y m + long y m := by
  have : m = 1 ∨ m = 2 ∨ m = 3 ∨ m = 4 ∨ m = 5 ∨ m = 6 ∨ m = 7 ∨ m = 8 ∨ m = 9 ∨ m = 10 ∨ m = 11 ∨ m = 12 := by omega
  by_cases hl : leap y = true <;> rcases this with rfl | rfl | rfl | rfl | rfl | rfl | rfl | rfl | rfl | rfl | rfl | rfl <;> simp [cum, cumL, long, lens, hl]
theorem cum_bounds {y m : Int} (h : 1 ≤ m ∧ m ≤ 13) : 0 ≤ cum y m ∧ cum y m ≤ 366 := by
  have : m = 1 ∨ m = 2 ∨ m = 3 ∨ m = 4 ∨ m = 5 ∨ m = 6 ∨ m = 7 ∨ m = 8 ∨ m = 9 ∨ m = 10 ∨ m = 11 ∨ m = 12 ∨ m = 13 := by omega
  by_cases hl : leap y = true <;> rcases this with rfl | rfl | rfl | rfl | rfl | rfl | rfl | rfl | rfl | rfl | rfl | rfl | rfl <;> simp [cum, cumL, hl]
set_option maxRecDepth 100000 in
set_option maxHeartbeats 1000000 in
theorem specDaysR (y m d : Int) : SpecE Tryz.prog 201 [] [.int .i64 y, .int .i64 m, .int .i64 d] [] (.tuple [.int .i64 (dayAns y m d), .bool (right y m d)]) := by
  refine specF0 (C := T3) (wr := false) (D := fun _ => []) (U := fun _ => none) (res := [.int .i64 (dayAns y m d), .bool (right y m d)]) mixed T3_ok Tryz.func201 (nA := 3) (by decide +kernel) rfl (fun _ => rfl) ?_
  simp only [Tryz.f201, bodyOf, rlOf]
  rw [W_V]
  simp only [T3, T2, T1, go_sem, go_sem, seval, uInt, uBool]
  refine ⟨fun h => ?_, fun h1 h2 h3 h4 => ⟨by have := long_le y m; omega, ?_⟩⟩
  · have hr : right y m d = false := by
      rw [← Bool.not_eq_true]; intro hr; have := right_iff.1 hr; omega
    exact ⟨by simp [dayAns, hr], hr.symm⟩
  have hr : right y m d = true := right_iff.2 (by omega)
  obtain ⟨-, -, hm1, hm2, -, hd⟩ := right_bounds hr
  refine VL_inv (X := Int × Int) (fun x => ⟨[(0, .int .i64 y), (1, .int .i64 m), (8, .int .i64 x.1), (9, .int .i64 x.2)], []⟩)
    (fun x => 1970 ≤ x.2 ∧ (1970 ≤ y → x.2 ≤ y) ∧ (y < 1970 → x.2 = 1970) ∧ x.1 = d - 1 + dby x.2 - 719162) (fun x => (y - x.2).toNat) (d - 1, 1970) ?_ ?_ ?_
  · simp only [go_sem, go_sem, seval]
  · exact ⟨Int.le_refl _, fun h => h, fun _ => rfl, by simp only [dby_1970]; omega⟩
  rintro ⟨n, i⟩ ⟨i1, i2, i3, i4⟩
  simp only at i1 i2 i3 i4
  have b1 := dby_bounds (y := i) (by omega)
  simp only [T3, T2, T1, go_sem, go_sem, seval, uInt, uBool]
  refine ⟨fun hlt => ⟨?_, ?_, ?_⟩, fun hge => ?_⟩
  · have := whole_bounds i; omega
  · omega
  · refine ⟨(n + whole i, i + 1), ?_⟩
    simp only [true_and, and_true, dby_whole]
    omega
  have hdy : d - 1 + dby (max y 1970) - 719162 = n := by
    have : max y 1970 = i := by omega
    rw [this]; omega
  refine VL_inv (X := Int × Int) (fun x => ⟨[(0, .int .i64 y), (1, .int .i64 m), (8, .int .i64 x.1), (10, .int .i64 x.2)], []⟩)
    (fun x => y ≤ x.2 ∧ (y ≤ 1970 → x.2 ≤ 1970) ∧ (1970 < y → x.2 = y) ∧ x.1 = n + dby y - dby x.2) (fun x => (1970 - x.2).toNat) (n, y) ?_ ?_ ?_
  · simp only [go_sem, go_sem, seval]
  · exact ⟨Int.le_refl _, fun h => h, fun _ => rfl, by simp only; omega⟩
  rintro ⟨n2, i'⟩ ⟨j1, j2, j3, j4⟩
  simp only at j1 j2 j3 j4
  have b2 := dby_bounds (y := i') (by omega)
  have b3 := dby_bounds (y := y) (by omega)
  have b5 := dby_bounds (y := max y 1970) (by omega)
  simp only [T3, T2, T1, go_sem, go_sem, seval, uInt, uBool]
  refine ⟨fun hlt => ⟨?_, ?_, ?_⟩, fun hge => ?_⟩
  · have := whole_bounds i'; omega
  · omega
  · refine ⟨(n2 - whole i', i' + 1), ?_⟩
    simp only [true_and, and_true, dby_whole]
    omega
  have hn2 : n2 = d - 1 + dby y - 719162 := by
    by_cases hy : y < 1970
    · have e1 : max y 1970 = 1970 := by omega
      have e2 : i' = 1970 := by omega
      rw [e1] at hdy; rw [e2] at j4; omega
    · have e1 : max y 1970 = y := by omega
      have e2 : i' = y := by omega
      rw [e1] at hdy; rw [e2] at j4; omega
  refine VL_inv (X := Int × Int) (fun x => ⟨[(0, .int .i64 y), (1, .int .i64 m), (8, .int .i64 x.1), (11, .int .i64 x.2)], []⟩)
    (fun x => 1 ≤ x.2 ∧ x.2 ≤ m ∧ x.1 = n2 + cum y x.2) (fun x => (m - x.2).toNat) (n2, 1) ?_ ?_ ?_
  · simp only [go_sem, go_sem, seval]
  · exact ⟨Int.le_refl _, hm1, by simp only [cum_1]; omega⟩
  rintro ⟨n3, k⟩ ⟨k1, k2, k3⟩
  simp only at k1 k2 k3
  have b4 := cum_bounds (y := y) (m := k) (by omega)
  simp only [T3, T2, T1, go_sem, go_sem, seval, uInt, uBool]
  refine ⟨fun hlt => ⟨?_, ?_, ?_⟩, fun hge => ?_⟩
  · have := long_le y k; omega
  · omega
  · refine ⟨(n3 + long y k, k + 1), ?_⟩
    simp only [true_and, and_true, cum_step (y := y) (m := k) (by omega)]
    omega
  · have e : k = m := by omega
    subst e
    refine ⟨?_, hr.symm⟩
    simp only [dayAns, hr, if_true, dayNo]; omega
def weekday (n : Int) : Int := (n % 7 + 4) % 7
theorem specWeekday (n : Int) : SpecE Tryz.prog 139 [] [.int .i64 n] [] (.int .i64 (weekday n)) := by
  refine specF0 (C := nilT) (wr := false) (D := fun _ => []) (U := fun _ => none) (res := [.int .i64 (weekday n)]) mixed nilT_ok Tryz.func139 (nA := 1) (by decide +kernel) rfl (fun _ => rfl) ?_
  simp only [Tryz.f139, bodyOf, rlOf]
  rw [W_V]
  simp only [go_sem, go_sem, seval, uInt, uBool]
  have e : n.tmod 7 = if 0 ≤ n then n % 7 else -((-n) % 7) := by
    split
    · rw [rem_nn _ (by omega)]
    · rw [← Int.neg_neg n, Int.neg_tmod, rem_nn _ (by omega), Int.neg_neg]
  rw [e]
  unfold weekday
  refine ⟨by split <;> omega, ?_⟩
  rw [rem_nn _ (by split <;> omega)]
  split <;> omega
theorem specWeekdayR (n : Int) : SpecE Tryz.prog 202 [] [.int .i64 n] [] (.int .i64 (weekday n)) := by
  refine specF0 (C := nilT) (wr := false) (D := fun _ => []) (U := fun _ => none) (res := [.int .i64 (weekday n)]) mixed nilT_ok Tryz.func202 (nA := 1) (by decide +kernel) rfl (fun _ => rfl) ?_
  simp only [Tryz.f202, bodyOf, rlOf]
  rw [W_V]
  simp only [go_sem, go_sem, seval, uInt, uBool]
  have e : n.tmod 7 = if 0 ≤ n then n % 7 else -((-n) % 7) := by
    split
    · rw [rem_nn _ (by omega)]
    · rw [← Int.neg_neg n, Int.neg_tmod, rem_nn _ (by omega), Int.neg_neg]
  rw [e]
  unfold weekday
  refine ⟨fun h => ?_, fun h => ?_⟩
  · refine ⟨by split at h <;> omega, by split at h <;> omega, ?_⟩
    rw [rem_nn _ (by split at h <;> omega)]
    split at h <;> rename_i h0 <;> simp only [h0, if_true, if_false] <;> omega
  · refine ⟨by split at h <;> omega, ?_⟩
    rw [rem_nn _ (by split at h <;> omega)]
    split at h <;> rename_i h0 <;> simp only [h0, if_true, if_false] <;> omega
def T4 : Tbl := fun g E args => addT (addT (addT (addT T3 136 (c3 (fun y m d => .tuple [.int .i64 (dayAns y m d), .bool (right y m d)]) (fun _ _ _ => True)))
  201 (c3 (fun y m d => .tuple [.int .i64 (dayAns y m d), .bool (right y m d)]) (fun _ _ _ => True)))
  139 (c1 .i64 (fun n => .int .i64 (weekday n)) (fun _ => True))) 202 (c1 .i64 (fun n => .int .i64 (weekday n)) (fun _ => True)) g E args
theorem T4_ok : TblOK Tryz.prog T4 :=
  add1 (add1 (add3 (add3 T3_ok (by decide +kernel) (fun y m d _ => specDays y m d)) (by decide +kernel) (fun y m d _ => specDaysR y m d)) (by decide +kernel) (fun n _ => specWeekday n)) (by decide +kernel) (fun n _ => specWeekdayR n)
set_option maxRecDepth 100000 in
set_option maxHeartbeats 4000000 in
theorem pDays (y m d : Int) : SpecE Tryz.prog 136 [] [.int .i64 y, .int .i64 m, .int .i64 d] [] (.tuple [.int .i64 (dayAns y m d), .bool (right y m d)]) := by
  exact specDays y m d
def tb_pDays : List Blk → List AV → Option (List Blk × AV × Prop)
  | [], [.int .i64 y, .int .i64 m, .int .i64 d] => some ([], .tuple [.int .i64 (dayAns y m d), .bool (right y m d)], True)
  | _, _ => none
theorem tb_pDays_ok : ∀ E args E' res p, tb_pDays E args = some (E', res, p) → p → SpecE Tryz.prog 136 E args E' res := by
  intro E args E' res p h hp
  unfold tb_pDays at h
  split at h
  · simp only [Option.some.injEq, Prod.mk.injEq] at h
    obtain ⟨rfl, rfl, rfl⟩ := h
    exact (pDays _ _ _)
  · cases h
set_option maxRecDepth 100000 in
set_option maxHeartbeats 4000000 in
theorem pDaysR (y m d : Int) : SpecE Tryz.prog 201 [] [.int .i64 y, .int .i64 m, .int .i64 d] [] (.tuple [.int .i64 (dayAns y m d), .bool (right y m d)]) := by
  exact specDaysR y m d
def tb_pDaysR : List Blk → List AV → Option (List Blk × AV × Prop)
  | [], [.int .i64 y, .int .i64 m, .int .i64 d] => some ([], .tuple [.int .i64 (dayAns y m d), .bool (right y m d)], True)
  | _, _ => none
theorem tb_pDaysR_ok : ∀ E args E' res p, tb_pDaysR E args = some (E', res, p) → p → SpecE Tryz.prog 201 E args E' res := by
  intro E args E' res p h hp
  unfold tb_pDaysR at h
  split at h
  · simp only [Option.some.injEq, Prod.mk.injEq] at h
    obtain ⟨rfl, rfl, rfl⟩ := h
    exact (pDaysR _ _ _)
  · cases h
set_option maxRecDepth 100000 in
set_option maxHeartbeats 4000000 in
theorem pWeekday (n : Int) : SpecE Tryz.prog 139 [] [.int .i64 n] [] (.int .i64 (weekday n)) := by
  exact specWeekday n
def tb_pWeekday : List Blk → List AV → Option (List Blk × AV × Prop)
  | [], [.int .i64 n] => some ([], .int .i64 (weekday n), True)
  | _, _ => none
theorem tb_pWeekday_ok : ∀ E args E' res p, tb_pWeekday E args = some (E', res, p) → p → SpecE Tryz.prog 139 E args E' res := by
  intro E args E' res p h hp
  unfold tb_pWeekday at h
  split at h
  · simp only [Option.some.injEq, Prod.mk.injEq] at h
    obtain ⟨rfl, rfl, rfl⟩ := h
    exact (pWeekday _)
  · cases h
set_option maxRecDepth 100000 in
set_option maxHeartbeats 4000000 in
theorem pWeekdayR (n : Int) : SpecE Tryz.prog 202 [] [.int .i64 n] [] (.int .i64 (weekday n)) := by
  exact specWeekdayR n
def tb_pWeekdayR : List Blk → List AV → Option (List Blk × AV × Prop)
  | [], [.int .i64 n] => some ([], .int .i64 (weekday n), True)
  | _, _ => none
theorem tb_pWeekdayR_ok : ∀ E args E' res p, tb_pWeekdayR E args = some (E', res, p) → p → SpecE Tryz.prog 202 E args E' res := by
  intro E args E' res p h hp
  unfold tb_pWeekdayR at h
  split at h
  · simp only [Option.some.injEq, Prod.mk.injEq] at h
    obtain ⟨rfl, rfl, rfl⟩ := h
    exact (pWeekdayR _)
  · cases h
def oE (n : Int) : Int := (n + 719468) / 146097
def oR0 (n : Int) : Int := (n + 719468) % 146097
def oC (n : Int) : Int := min (oR0 n / 36524) 3
def oR1 (n : Int) : Int := oR0 n - oC n * 36524
def oF (n : Int) : Int := oR1 n / 1461
def oR2 (n : Int) : Int := oR1 n - oF n * 1461
def oO (n : Int) : Int := min (oR2 n / 365) 3
def oR3 (n : Int) : Int := oR2 n - oO n * 365
def oY0 (n : Int) : Int := oE n * 400 + (oC n * 100 + oF n * 4 + oO n)
def oP (n : Int) : Int := (5 * oR3 n + 2) / 153
def oD (n : Int) : Int := oR3 n - (153 * oP n + 2) / 5 + 1
def oM (n : Int) : Int := (oP n + 2) % 12 + 1
def oY (n : Int) : Int := if 10 ≤ oP n then oY0 n + 1 else oY0 n
def inDays (n : Int) : Bool := decide (-719162 ≤ n ∧ n ≤ 2932896)
def aY (n : Int) : Int := if inDays n = true then oY n else 0
def aM (n : Int) : Int := if inDays n = true then oM n else 0
def aD (n : Int) : Int := if inDays n = true then oD n else 0
theorem o_bounds {n : Int} (h : -719162 ≤ n ∧ n ≤ 2932896) : 0 ≤ oE n ∧ oE n ≤ 24 ∧ 0 ≤ oR0 n ∧ oR0 n ≤ 146096 ∧ 0 ≤ oC n ∧ oC n ≤ 3 ∧ 0 ≤ oR1 n ∧ oR1 n ≤ 36524 ∧ 0 ≤ oF n ∧ oF n ≤ 24 ∧ 0 ≤ oR2 n ∧ oR2 n ≤ 1460 ∧ 0 ≤ oO n ∧ oO n ≤ 3 ∧ 0 ≤ oR3 n ∧ oR3 n ≤ 365 := by
  have h1 : 0 ≤ oE n ∧ oE n ≤ 24 ∧ 0 ≤ oR0 n ∧ oR0 n ≤ 146096 := by unfold oE oR0; omega
  have h2 : 0 ≤ oC n ∧ oC n ≤ 3 ∧ 0 ≤ oR1 n ∧ oR1 n ≤ 36524 := by unfold oR1 oC; omega
  have h3 : 0 ≤ oF n ∧ oF n ≤ 24 ∧ 0 ≤ oR2 n ∧ oR2 n ≤ 1460 := by unfold oR2 oF; omega
  have h4 : 0 ≤ oO n ∧ oO n ≤ 3 ∧ 0 ≤ oR3 n ∧ oR3 n ≤ 365 := by unfold oR3 oO; omega
  omega
set_option maxRecDepth 100000 in
set_option maxHeartbeats 2000000 in
theorem specOf (n : Int) : SpecE Tryz.prog 172 [] [.int .i64 n] [] (.tuple [.int .i64 (aY n), .int .i64 (aM n), .int .i64 (aD n), .bool (inDays n)]) := by
  refine specF0 (C := nilT) (wr := false) (D := fun _ => []) (U := fun _ => none) (res := [.int .i64 (aY n), .int .i64 (aM n), .int .i64 (aD n), .bool (inDays n)]) mixed nilT_ok Tryz.func172 (nA := 1) (by decide +kernel) rfl (fun _ => rfl) ?_
  simp only [Tryz.f172, bodyOf, rlOf]
  rw [W_V]
  simp only [go_sem, go_sem, seval, uInt, uBool]
  have hin : inDays n = true ↔ -719162 ≤ n ∧ n ≤ 2932896 := by simp [inDays]
  refine ⟨fun h => ?_, fun h1 h2 => ?_⟩
  · have : inDays n = false := by rw [← Bool.not_eq_true, hin]; omega
    simp [aY, aM, aD, this]
  have hi : inDays n = true := hin.2 (by omega)
  obtain ⟨b1, b2, b3, b4, b5, b6, b7, b8, b9, b10, b11, b12, b13, b14, b15, b16⟩ := o_bounds (hin.1 hi)
  have qE : (n + 719468).tdiv 146097 = oE n := quo_nn _ (by omega)
  have q0 : (n + 719468).tmod 146097 = oR0 n := rem_nn _ (by omega)
  have qC : (oR0 n).tdiv 36524 = oR0 n / 36524 := quo_nn _ b3
  have fC : min (oR0 n / 36524) 3 = oC n := rfl
  have f1 : oR0 n - oC n * 36524 = oR1 n := rfl
  have qF : (oR1 n).tdiv 1461 = oF n := quo_nn _ b7
  have f2 : oR1 n - oF n * 1461 = oR2 n := rfl
  have qO : (oR2 n).tdiv 365 = oR2 n / 365 := quo_nn _ b11
  have fO : min (oR2 n / 365) 3 = oO n := rfl
  have f3 : oR2 n - oO n * 365 = oR3 n := rfl
  have fY : oE n * 400 + (oC n * 100 + oF n * 4 + oO n) = oY0 n := rfl
  have qP : (5 * oR3 n + 2).tdiv 153 = oP n := quo_nn _ (by omega)
  have bP : 0 ≤ oP n ∧ oP n ≤ 11 := by unfold oP; omega
  have qD : (153 * oP n + 2).tdiv 5 = (153 * oP n + 2) / 5 := quo_nn _ (by omega)
  have fD : oR3 n - (153 * oP n + 2) / 5 + 1 = oD n := rfl
  have qM : (oP n + 2).tmod 12 = (oP n + 2) % 12 := rem_nn _ (by omega)
  have fM : (oP n + 2) % 12 + 1 = oM n := rfl
  have bY : 0 ≤ oY0 n ∧ oY0 n ≤ 9999 := by unfold oY0; omega
  have bD : -400 ≤ oD n ∧ oD n ≤ 400 := by unfold oD; omega
  simp only [aY, aM, aD, qE, q0, qC, fC, f1, qF, f2, qO, fO, f3, fY, qP, qD, fD, qM, fM, hi, if_true]
  have r0 : -9223372036854775808 ≤ oR0 n / 36524 ∧ oR0 n / 36524 ≤ 9223372036854775807 := by omega
  have r2 : -9223372036854775808 ≤ oR2 n / 365 ∧ oR2 n / 365 ≤ 9223372036854775807 := by omega
  and_intros
  all_goals try omega
  · intro h10
    simp only [oY, if_pos h10]
    and_intros <;> first | omega | trivial
  · intro h10
    simp only [oY, if_neg (show ¬ 10 ≤ oP n by omega)]
    and_intros <;> first | omega | trivial
end Go.Proofs.Tryz.Civil
end
section
set_option linter.unusedVariables false
set_option linter.unusedSimpArgs false
namespace Go.Proofs.Tryz.Civil
open Go Go.Abs Go.Proofs
theorem o_key {n : Int} (h : -719162 ≤ n ∧ n ≤ 2932896) : oY0 n * 365 + oY0 n / 4 - oY0 n / 100 + oY0 n / 400 + oR3 n = n + 719468 := by
  obtain ⟨b1, b2, b3, b4, b5, b6, b7, b8, b9, b10, b11, b12, b13, b14, b15, b16⟩ := o_bounds h
  have e1 : oY0 n = oE n * 400 + (oC n * 100 + oF n * 4 + oO n) := rfl
  have e2 : oR3 n = oR2 n - oO n * 365 := rfl
  have e3 : oR2 n = oR1 n - oF n * 1461 := rfl
  have e4 : oR1 n = oR0 n - oC n * 36524 := rfl
  have e5 : n + 719468 = oE n * 146097 + oR0 n := by unfold oE oR0; omega
  have q4 : oY0 n / 4 = oE n * 100 + oC n * 25 + oF n := by omega
  have q100 : oY0 n / 100 = oE n * 4 + oC n := by omega
  have q400 : oY0 n / 400 = oE n := by omega
  rw [q4, q100, q400]
  omega
theorem o_last {n : Int} (h : -719162 ≤ n ∧ n ≤ 2932896) : oR3 n = 365 → oO n = 3 ∧ (oF n = 24 → oC n = 3) := by
  obtain ⟨b1, b2, b3, b4, b5, b6, b7, b8, b9, b10, b11, b12, b13, b14, b15, b16⟩ := o_bounds h
  have e2 : oR3 n = oR2 n - oO n * 365 := rfl
  have e3 : oR2 n = oR1 n - oF n * 1461 := rfl
  have e4 : oR1 n = oR0 n - oC n * 36524 := rfl
  have e6 : oO n = min (oR2 n / 365) 3 := rfl
  have e7 : oC n = min (oR0 n / 36524) 3 := rfl
  omega
theorem of_right {n : Int} (h : -719162 ≤ n ∧ n ≤ 2932896) : right (oY n) (oM n) (oD n) = true ∧ dayNo (oY n) (oM n) (oD n) = n := by
  obtain ⟨b1, b2, b3, b4, b5, b6, b7, b8, b9, b10, b11, b12, b13, b14, b15, b16⟩ := o_bounds h
  have hk := o_key h
  have hl := o_last h
  have e1 : oY0 n = oE n * 400 + (oC n * 100 + oF n * 4 + oO n) := rfl
  have eP : oP n = (5 * oR3 n + 2) / 153 := rfl
  have eD : oD n = oR3 n - (153 * oP n + 2) / 5 + 1 := rfl
  have eM : oM n = (oP n + 2) % 12 + 1 := rfl
  have bY : 0 ≤ oY0 n ∧ oY0 n ≤ 9999 := by omega
  rw [right_iff]
  by_cases h10 : 10 ≤ oP n
  · have eY : oY n = oY0 n + 1 := by unfold oY; rw [if_pos h10]
    have hP : oP n = 10 ∨ oP n = 11 := by omega
    have hm : oM n = oP n - 9 := by omega
    have hd := day_early (y := oY0 n + 1) (m := oP n - 9) (d := oD n) (by omega)
    rw [show oY0 n + 1 - 1 = oY0 n by omega, show oP n - 9 + 9 = oP n by omega] at hd
    rw [eY, hm]
    refine ⟨⟨by omega, by omega, by omega, ?_⟩, by rw [← hd]; omega⟩
    rcases hP with hP | hP
    · rw [hP]; simp [long, lens]; omega
    · rw [hP]
      by_cases hlp : leap (oY0 n + 1) = true
      · simp [long, hlp]; omega
      · have : oR3 n ≠ 365 := by
          intro h365
          obtain ⟨k1, k2⟩ := hl h365
          apply hlp
          have k4 : (oY0 n + 1) % 4 = 0 := by omega
          have k100 : (oY0 n + 1) % 100 ≠ 0 ∨ (oY0 n + 1) % 400 = 0 := by omega
          unfold leap
          rcases k100 with k | k <;> simp [k4, k]
        simp [long, hlp, lens]; omega
  · have eY : oY n = oY0 n := by unfold oY; rw [if_neg h10]
    have bP : 0 ≤ oP n := by omega
    have hm : oM n = oP n + 3 := by omega
    have hd := day_late (y := oY0 n) (m := oP n + 3) (d := oD n) (by omega)
    rw [show oP n + 3 - 3 = oP n by omega] at hd
    rw [eY, hm]
    refine ⟨⟨by omega, by omega, by omega, ?_⟩, by rw [← hd]; omega⟩
    have hP : oP n = 0 ∨ oP n = 1 ∨ oP n = 2 ∨ oP n = 3 ∨ oP n = 4 ∨ oP n = 5 ∨ oP n = 6 ∨ oP n = 7 ∨ oP n = 8 ∨ oP n = 9 := by omega
    rcases hP with hP | hP | hP | hP | hP | hP | hP | hP | hP | hP <;> rw [hP] <;> simp [long, lens] <;> omega
theorem dby_mono {a b : Int} (h : a < b) : dby (a + 1) ≤ dby b := by unfold dby; omega
theorem cum_mono {y a b : Int} (h1 : 1 ≤ a) (h : a < b) (h2 : b ≤ 13) : cum y (a + 1) ≤ cum y b := by
  have key : ∀ j : Nat, a + 1 + j ≤ 13 → cum y (a + 1) ≤ cum y (a + 1 + j) := by
    intro j
    induction j with
    | zero => intro _; simp
    | succ j ih =>
      intro hj
      have h3 := ih (by omega)
      have h4 := cum_step (y := y) (m := a + 1 + j) (by omega)
      have h5 := (long_le y (a + 1 + j)).2.1
      rw [show a + 1 + ((j + 1 : Nat) : Int) = a + 1 + j + 1 by omega]
      omega
  have := key (b - (a + 1)).toNat (by omega)
  rwa [show a + 1 + (((b - (a + 1)).toNat : Nat) : Int) = b by omega] at this
theorem day_unique {y m d y' m' d' : Int} (h : right y m d = true) (h' : right y' m' d' = true) (e : dayNo y m d = dayNo y' m' d') : y = y' ∧ m = m' ∧ d = d' := by
  obtain ⟨a1, a2, a3, a4, a5, a6⟩ := right_bounds h
  obtain ⟨c1, c2, c3, c4, c5, c6⟩ := right_bounds h'
  have l1 := (right_iff.1 h).2.2.2
  have l2 := (right_iff.1 h').2.2.2
  have s1 := cum_step (y := y) (m := m) ⟨a3, a4⟩
  have s2 := cum_step (y := y') (m := m') ⟨c3, c4⟩
  have w1 := dby_whole y
  have w2 := dby_whole y'
  have t1 : cum y 13 = whole y := by unfold whole; by_cases hl : leap y = true <;> simp [cum, cumL, hl]
  have t2 : cum y' 13 = whole y' := by unfold whole; by_cases hl : leap y' = true <;> simp [cum, cumL, hl]
  have g1 : 0 ≤ cum y m := (cum_bounds ⟨a3, by omega⟩).1
  have g2 : 0 ≤ cum y' m' := (cum_bounds ⟨c3, by omega⟩).1
  have u1 : cum y (m + 1) ≤ cum y 13 := by
    by_cases e12 : m = 12
    · subst e12; exact Int.le_refl _
    · have := cum_mono (y := y) (a := m) (b := 13) a3 (by omega) (by omega); exact this
  have u2 : cum y' (m' + 1) ≤ cum y' 13 := by
    by_cases e12 : m' = 12
    · subst e12; exact Int.le_refl _
    · have := cum_mono (y := y') (a := m') (b := 13) c3 (by omega) (by omega); exact this
  unfold dayNo at e
  have hy : y = y' := by
    rcases Int.lt_trichotomy y y' with hlt | heq | hlt
    · have := dby_mono hlt; omega
    · exact heq
    · have := dby_mono hlt; omega
  subst hy
  have hm : m = m' := by
    rcases Int.lt_trichotomy m m' with hlt | heq | hlt
    · have := cum_mono (y := y) a3 hlt (by omega); omega
    · exact heq
    · have := cum_mono (y := y) c3 hlt (by omega); omega
  subst hm
  exact ⟨rfl, rfl, by omega⟩
abbrev dateAV (y m d h mi s : Int) : AV := .agg [.int .i64 y, .int .i64 m, .int .i64 d, .int .i64 h, .int .i64 mi, .int .i64 s]
theorem zDate : zT Tryz.prog 132 = some (.agg [.int .i64 0, .int .i64 0, .int .i64 0, .int .i64 0, .int .i64 0, .int .i64 0]) := by kernel_rfl
theorem szDate : szT Tryz.prog 132 = some 6 := by kernel_rfl
theorem aggDate : aggT Tryz.prog 132 = some true := by kernel_rfl
def TW : Tbl := fun g E args => addT (addT (addT nilT 203 (c1 .i64 (fun y => .int .i64 (whole y)) (fun _ => True))) 204 (c2 (fun y m => .int .i64 (long y m)) (fun _ _ => True)))
  202 (c1 .i64 (fun n => .int .i64 (weekday n)) (fun _ => True)) g E args
theorem TW_ok : TblOK Tryz.prog TW := add1 (add2 (add1 nilT_ok (by decide +kernel) (fun y _ => specWhole y)) (by decide +kernel) (fun y m _ => specLongR y m)) (by decide +kernel) (fun n _ => specWeekdayR n)
theorem year_bound {y : Int} (h : dby y ≤ 3652058) : y ≤ 9999 := by
  by_cases h1 : y < 10000
  · omega
  · have h2 : dby 10000 = 3652059 := by decide
    by_cases h3 : 10000 < y
    · have := dby_mono h3
      have := dby_whole 10000
      have := whole_bounds 10000
      omega
    · have : y = 10000 := by omega
      subst this; omega
theorem of_unique {n y m d : Int} (h : -719162 ≤ n ∧ n ≤ 2932896) (hr : right y m d = true) (e : dayNo y m d = n) : oY n = y ∧ oM n = m ∧ oD n = d := by
  obtain ⟨h1, h2⟩ := of_right h
  exact day_unique h1 hr (h2.trans e.symm)
set_option maxRecDepth 100000 in
set_option maxHeartbeats 2000000 in
theorem specOfR (n : Int) : SpecE Tryz.prog 178 [] [.int .i64 n] [] (.tuple [dateAV (aY n) (aM n) (aD n) 0 0 0, .bool (inDays n)]) := by
  refine specF0 (C := TW) (wr := false) (D := fun _ => []) (U := fun _ => none) (res := [dateAV (aY n) (aM n) (aD n) 0 0 0, .bool (inDays n)]) mixed TW_ok Tryz.func178 (nA := 1) (by decide +kernel) rfl (fun _ => rfl) ?_
  simp only [Tryz.f178, bodyOf, rlOf]
  rw [W_V]
  simp only [TW, go_sem, go_sem, seval, uInt, uBool, zDate, szDate, aggDate, Tryz.underlying132, szInt, aggInt, zInt]
  have hin : inDays n = true ↔ -719162 ≤ n ∧ n ≤ 2932896 := by simp [inDays]
  refine ⟨fun h => ?_, fun h1 h2 => ?_⟩
  · have : inDays n = false := by rw [← Bool.not_eq_true, hin]; omega
    simp [aY, aM, aD, this]
  have hi : inDays n = true := hin.2 ⟨h1, h2⟩
  -- back to the year
  refine VL_inv (X := Int × Int) (fun x => ⟨[(0, .int .i64 x.1), (2, .ptr 48 0 0 1), (4, .int .i64 x.2), (5, .int .i64 1)], [(48, .cells 6 false (dateAV 0 0 0 0 0 0) [dateAV 0 0 0 0 0 0])]⟩)
    (fun x => 1 ≤ x.2 ∧ x.2 ≤ 1970 ∧ x.1 + dby x.2 = n + 719162) (fun x => x.2.toNat) (n, 1970) ?_ ?_ ?_
  · simp only [go_sem, go_sem, seval]
    try exact .inl rfl
  · exact ⟨by simp only; omega, by simp only; omega, by simp only [dby_1970]⟩
  rintro ⟨k, y⟩ ⟨i1, i2, i3⟩
  simp only at i1 i2 i3
  have b1 := dby_bounds (y := y) (by omega)
  simp only [TW, go_sem, go_sem, seval, uInt, uBool]
  refine ⟨fun hlt => ⟨by omega, ?_, ?_⟩, fun hge => ?_⟩
  · have := whole_bounds (y - 1); omega
  · refine ⟨(k + whole (y - 1), y - 1), ?_⟩
    have hw := dby_whole (y - 1)
    rw [show y - 1 + 1 = y by omega] at hw
    have hy1 : 1 < y := by
      by_cases e : y = 1
      · subst e
        have : dby 1 = 0 := by decide
        omega
      · omega
    exact ⟨⟨rfl, rfl⟩, ⟨by simp only; omega, by simp only; omega, by simp only; omega⟩, by simp only; omega⟩
  -- on to the year
  refine VL_inv (X := Int × Int) (fun x => ⟨[(0, .int .i64 x.1), (2, .ptr 48 0 0 1), (4, .int .i64 x.2), (5, .int .i64 1)], [(48, .cells 6 false (dateAV 0 0 0 0 0 0) [dateAV 0 0 0 0 0 0])]⟩)
    (fun x => 1 ≤ x.2 ∧ 0 ≤ x.1 ∧ x.1 + dby x.2 = n + 719162) (fun x => x.1.toNat) (k, y) ?_ ?_ ?_
  · simp only [go_sem, go_sem, seval]
    try exact .inl rfl
  · exact ⟨i1, hge, i3⟩
  rintro ⟨k, y⟩ ⟨j1, j2, j3⟩
  simp only at j1 j2 j3
  have hy9 : 0 ≤ dby y := by unfold dby; omega
  have hy99 := year_bound (y := y) (by omega)
  have wb := whole_bounds y
  simp only [TW, go_sem, go_sem, seval, uInt, uBool]
  refine ⟨fun hge => ⟨by omega, by omega, ?_⟩, fun hlt => ?_⟩
  · refine ⟨(k - whole y, y + 1), ?_⟩
    have hw := dby_whole y
    exact ⟨⟨rfl, rfl⟩, ⟨by simp only; omega, by simp only; omega, by simp only; omega⟩, by simp only; omega⟩
  -- on to the month
  have t1 : cum y 13 = whole y := by unfold whole; by_cases hl : leap y = true <;> simp [cum, cumL, hl]
  refine VL_inv (X := Int × Int) (fun x => ⟨[(0, .int .i64 x.1), (2, .ptr 48 0 0 1), (4, .int .i64 y), (5, .int .i64 x.2)], [(48, .cells 6 false (dateAV 0 0 0 0 0 0) [dateAV 0 0 0 0 0 0])]⟩)
    (fun x => 1 ≤ x.2 ∧ x.2 ≤ 12 ∧ 0 ≤ x.1 ∧ x.1 + cum y x.2 = k) (fun x => (13 - x.2).toNat) (k, 1) ?_ ?_ ?_
  · simp only [go_sem, go_sem, seval]
    try exact .inl rfl
  · exact ⟨by simp only; omega, by simp only; omega, j2, by simp only [cum_1]; omega⟩
  rintro ⟨r, m⟩ ⟨k1, k2, k3, k4⟩
  simp only at k1 k2 k3 k4
  have cb := cum_bounds (y := y) (m := m) (by omega)
  have cs := cum_step (y := y) (m := m) (by omega)
  have lb := long_le y m
  simp only [TW, go_sem, go_sem, seval, uInt, uBool, zDate, szDate, aggDate, Tryz.underlying132, szInt, aggInt, zInt]
  refine ⟨fun hge => ⟨by omega, by omega, ?_⟩, fun hlt => ?_⟩
  · refine ⟨(r - long y m, m + 1), ?_⟩
    have hm : m ≠ 12 := by
      intro e; subst e
      rw [show (12 : Int) + 1 = 13 by decide] at cs
      omega
    exact ⟨⟨rfl, rfl⟩, ⟨by simp only; omega, by simp only; omega, by simp only; omega, by simp only; omega⟩, by simp only; omega⟩
  have hr : right y m (r + 1) = true := right_iff.2 (by omega)
  obtain ⟨u1, u2, u3⟩ := of_unique (n := n) (y := y) (m := m) (d := r + 1) ⟨h1, h2⟩ hr (by unfold dayNo; omega)
  simp only [aY, aM, aD, hi, if_true, u1, u2, u3]
  exact ⟨by omega, trivial, trivial⟩
def T6 : Tbl := fun g E args => addT (addT T4 172 (c1 .i64 (fun n => .tuple [.int .i64 (aY n), .int .i64 (aM n), .int .i64 (aD n), .bool (inDays n)]) (fun _ => True)))
  178 (c1 .i64 (fun n => .tuple [dateAV (aY n) (aM n) (aD n) 0 0 0, .bool (inDays n)]) (fun _ => True)) g E args
theorem T6_ok : TblOK Tryz.prog T6 := add1 (add1 T4_ok (by decide +kernel) (fun n _ => specOf n)) (by decide +kernel) (fun n _ => specOfR n)
def within (n most : Int) : Bool := decide (0 ≤ n ∧ n < most)
theorem specWithin (n m : Int) : SpecE Tryz.prog 194 [] [.int .i64 n, .int .i64 m] [] (.bool (within n m)) := by
  refine specF0 (C := nilT) (wr := false) (D := fun _ => []) (U := fun _ => none) (res := [.bool (within n m)]) mixed nilT_ok Tryz.func194 (nA := 2) (by decide +kernel) rfl (fun _ => rfl) ?_
  simp only [Tryz.f194, bodyOf, rlOf]
  rw [W_V]
  simp only [go_sem, go_sem, seval, uInt, uBool]
  simp [within]
def T7 : Tbl := fun g E args => addT T6 194 (c2 (fun n m => .bool (within n m)) (fun _ _ => True)) g E args
theorem T7_ok : TblOK Tryz.prog T7 := add2 T6_ok (by decide +kernel) (fun n m _ => specWithin n m)
def secOk (y m d h mi s : Int) : Bool := right y m d && within h 24 && within mi 60 && within s 60
def secNo (y m d h mi s : Int) : Int := if secOk y m d h mi s = true then dayNo y m d * 86400 + h * 3600 + mi * 60 + s else 0
theorem dayNo_bounds {y m d : Int} (h : right y m d = true) : -719162 ≤ dayNo y m d ∧ dayNo y m d ≤ 2932896 := by
  obtain ⟨h1, h2, h3, h4, h5, h6⟩ := right_bounds h
  have l1 := (right_iff.1 h).2.2.2
  have s1 := cum_step (y := y) (m := m) ⟨h3, h4⟩
  have g1 : 0 ≤ cum y m := (cum_bounds ⟨h3, by omega⟩).1
  have t1 : cum y 13 = whole y := by unfold whole; by_cases hl : leap y = true <;> simp [cum, cumL, hl]
  have u1 : cum y (m + 1) ≤ cum y 13 := by
    by_cases e12 : m = 12
    · subst e12; exact Int.le_refl _
    · have := cum_mono (y := y) (a := m) (b := 13) h3 (by omega) (by omega); exact this
  have w1 := dby_whole y
  have d1 : 0 ≤ dby y := (dby_bounds ⟨h1, by omega⟩).1
  have d2 : dby 10000 = 3652059 := by decide
  have d3 : dby (y + 1) ≤ dby 10000 := by
    by_cases e : y = 9999
    · subst e; exact Int.le_refl _
    · exact dby_mono (by omega)
  unfold dayNo; omega
theorem within_iff {a b : Int} : within a b = true ↔ 0 ≤ a ∧ a < b := by simp [within]
theorem secOk_iff {y m d h mi s : Int} : secOk y m d h mi s = true ↔ right y m d = true ∧ (0 ≤ h ∧ h < 24) ∧ (0 ≤ mi ∧ mi < 60) ∧ (0 ≤ s ∧ s < 60) := by
  simp only [secOk, Bool.and_eq_true, within_iff, and_assoc]
theorem sec_fin {y m d h mi s : Int} (hok : secOk y m d h mi s = true) :
    (-9223372036854775808 ≤ dayAns y m d * 86400 ∧ dayAns y m d * 86400 ≤ 9223372036854775807) ∧ (-9223372036854775808 ≤ h * 3600 ∧ h * 3600 ≤ 9223372036854775807) ∧
    (-9223372036854775808 ≤ dayAns y m d * 86400 + h * 3600 ∧ dayAns y m d * 86400 + h * 3600 ≤ 9223372036854775807) ∧ (-9223372036854775808 ≤ mi * 60 ∧ mi * 60 ≤ 9223372036854775807) ∧
    (-9223372036854775808 ≤ dayAns y m d * 86400 + h * 3600 + mi * 60 ∧ dayAns y m d * 86400 + h * 3600 + mi * 60 ≤ 9223372036854775807) ∧
    (-9223372036854775808 ≤ dayAns y m d * 86400 + h * 3600 + mi * 60 + s ∧ dayAns y m d * 86400 + h * 3600 + mi * 60 + s ≤ 9223372036854775807) ∧
    dayAns y m d * 86400 + h * 3600 + mi * 60 + s = secNo y m d h mi s ∧ true = secOk y m d h mi s := by
  obtain ⟨hr, hh, hm, hs⟩ := secOk_iff.1 hok
  have b1 := dayNo_bounds hr
  simp only [secNo, hok, if_true, dayAns, hr]
  and_intros <;> first | omega | trivial
def T_specSeconds : Tbl := fun g E args => T7 g E args
theorem T_specSeconds_ok : TblOK Tryz.prog T_specSeconds := T7_ok
set_option maxRecDepth 100000 in
set_option maxHeartbeats 4000000 in
theorem specSeconds (y m d h mi s : Int) : SpecE Tryz.prog 171 [] [.agg [.int .i64 y, .int .i64 m, .int .i64 d, .int .i64 h, .int .i64 mi, .int .i64 s]] [] (.tuple [.int .i64 (secNo y m d h mi s), .bool (secOk y m d h mi s)]) := by
  refine specF0 (C := T_specSeconds) (wr := false) (D := fun _ => []) (U := fun _ => none) (res := [.int .i64 (secNo y m d h mi s), .bool (secOk y m d h mi s)]) Tryz.Ty.mixed T_specSeconds_ok Tryz.func171 (nA := 1) (by decide +kernel) rfl (fun _ => rfl) ?_
  simp only [Tryz.f171, bodyOf, rlOf]
  rw [W_V]
  simp (config := {maxSteps := 2000000}) only [T_specSeconds, go_sem, seval, T7, T6, T4, T3, T2, T1]
  (try simp (config := {maxSteps := 2000000}) only [gimp, impB, isT, go_sem, seval])
  try simp only [Bool.not_eq_false']
  refine ⟨fun e => ?_, fun hr hh hm hs => ?_⟩
  · have hok : secOk y m d h mi s = false := by
      unfold secOk
      rcases e with ((e | e) | e) | e <;> simp [e]
    simp [secNo, hok]
  · have hok : secOk y m d h mi s = true := by simp [secOk, hr, hh, hm, hs]
    exact sec_fin hok
def tb_specSeconds : List Blk → List AV → Option (List Blk × AV × Prop)
  | [], [.agg [.int .i64 y, .int .i64 m, .int .i64 d, .int .i64 h, .int .i64 mi, .int .i64 s]] => some ([], .tuple [.int .i64 (secNo y m d h mi s), .bool (secOk y m d h mi s)], True)
  | _, _ => none
theorem tb_specSeconds_ok : ∀ E args E' res p, tb_specSeconds E args = some (E', res, p) → p → SpecE Tryz.prog 171 E args E' res := by
  intro E args E' res p h hp
  unfold tb_specSeconds at h
  split at h
  · simp only [Option.some.injEq, Prod.mk.injEq] at h
    obtain ⟨rfl, rfl, rfl⟩ := h
    exact (specSeconds _ _ _ _ _ _)
  · cases h
def T_specSecondsR : Tbl := fun g E args => T7 g E args
theorem T_specSecondsR_ok : TblOK Tryz.prog T_specSecondsR := T7_ok
set_option maxRecDepth 100000 in
set_option maxHeartbeats 4000000 in
theorem specSecondsR (y m d h mi s : Int) : SpecE Tryz.prog 176 [] [.agg [.int .i64 y, .int .i64 m, .int .i64 d, .int .i64 h, .int .i64 mi, .int .i64 s]] [] (.tuple [.int .i64 (secNo y m d h mi s), .bool (secOk y m d h mi s)]) := by
  refine specF0 (C := T_specSecondsR) (wr := false) (D := fun _ => []) (U := fun _ => none) (res := [.int .i64 (secNo y m d h mi s), .bool (secOk y m d h mi s)]) Tryz.Ty.mixed T_specSecondsR_ok Tryz.func176 (nA := 1) (by decide +kernel) rfl (fun _ => rfl) ?_
  simp only [Tryz.f176, bodyOf, rlOf]
  rw [W_V]
  simp (config := {maxSteps := 2000000}) only [T_specSecondsR, go_sem, seval, T7, T6, T4, T3, T2, T1]
  (try simp (config := {maxSteps := 2000000}) only [gimp, impB, isT, go_sem, seval])
  try simp only [Bool.not_eq_false']
  refine ⟨fun e => ?_, fun hr h1 h2 h3 h4 h5 h6 => ?_⟩
  · have hok : secOk y m d h mi s = false := by
      rw [← Bool.not_eq_true, secOk_iff]
      intro hk
      rcases e with (((((e | e) | e) | e) | e) | e) | e
      · rw [e] at hk; exact absurd hk.1 (by simp)
      all_goals omega
    simp [secNo, hok]
  · exact sec_fin (secOk_iff.2 ⟨hr, by omega, by omega, by omega⟩)
def tb_specSecondsR : List Blk → List AV → Option (List Blk × AV × Prop)
  | [], [.agg [.int .i64 y, .int .i64 m, .int .i64 d, .int .i64 h, .int .i64 mi, .int .i64 s]] => some ([], .tuple [.int .i64 (secNo y m d h mi s), .bool (secOk y m d h mi s)], True)
  | _, _ => none
theorem tb_specSecondsR_ok : ∀ E args E' res p, tb_specSecondsR E args = some (E', res, p) → p → SpecE Tryz.prog 176 E args E' res := by
  intro E args E' res p h hp
  unfold tb_specSecondsR at h
  split at h
  · simp only [Option.some.injEq, Prod.mk.injEq] at h
    obtain ⟨rfl, rfl, rfl⟩ := h
    exact (specSecondsR _ _ _ _ _ _)
  · cases h
def dQ (t : Int) : Int := t / 86400
def dR (t : Int) : Int := t % 86400
def dIn (t v : Int) : Int := if inDays (dQ t) = true then v else 0
theorem tdiv_cases (a b : Int) (hb : 0 < b) : (0 ≤ a ∧ a.tdiv b = a / b ∧ a.tmod b = a % b) ∨ (a < 0 ∧ a.tdiv b = -((-a) / b) ∧ a.tmod b = -((-a) % b)) := by
  rcases Int.lt_or_le a 0 with h | h
  · refine .inr ⟨h, ?_, ?_⟩
    · rw [show a = -(-a) by omega, Int.neg_tdiv, quo_nn _ (by omega), Int.neg_neg]
    · rw [show a = -(-a) by omega, Int.neg_tmod, rem_nn _ (by omega), Int.neg_neg]
  · exact .inl ⟨h, quo_nn _ h, rem_nn _ h⟩
theorem date_pos {t : Int} (h : 0 ≤ t.tmod 86400) : t.tdiv 86400 = dQ t ∧ t.tmod 86400 = dR t := by
  unfold dQ dR
  rcases tdiv_cases t 86400 (by omega) with ⟨h1, h2, h3⟩ | ⟨h1, h2, h3⟩ <;> rw [h3] at h <;> rw [h2, h3] <;> omega
theorem date_neg {t : Int} (h : t.tmod 86400 < 0) : t.tdiv 86400 - 1 = dQ t ∧ t.tmod 86400 + 86400 = dR t ∧ t < 0 := by
  unfold dQ dR
  rcases tdiv_cases t 86400 (by omega) with ⟨h1, h2, h3⟩ | ⟨h1, h2, h3⟩ <;> rw [h3] at h <;> rw [h2, h3] <;> omega
theorem dR_bounds (t : Int) : 0 ≤ dR t ∧ dR t < 86400 := by unfold dR; omega
theorem dQ_bounds {t : Int} (h : -9223372036854775808 ≤ t ∧ t ≤ 9223372036854775807) : -106751991167302 ≤ dQ t ∧ dQ t ≤ 106751991167302 := by unfold dQ; omega
theorem day_parts {r : Int} (h : 0 ≤ r ∧ r < 86400) : r.tdiv 3600 = r / 3600 ∧ r.tdiv 60 = r / 60 ∧ (r / 60).tmod 60 = r / 60 % 60 ∧ r.tmod 60 = r % 60 ∧ r.tmod 3600 = r % 3600 ∧ (r % 3600).tdiv 60 = r / 60 % 60 :=
  ⟨quo_nn _ h.1, quo_nn _ h.1, rem_nn _ (by omega), rem_nn _ h.1, rem_nn _ h.1, by rw [quo_nn _ (by omega)]; omega⟩
def T_specDate : Tbl := fun g E args => T7 g E args
theorem T_specDate_ok : TblOK Tryz.prog T_specDate := T7_ok
set_option maxRecDepth 100000 in
set_option maxHeartbeats 4000000 in
theorem specDate (t : Int) (ht : inR .i64 t) : SpecE Tryz.prog 135 [] [.int .i64 t] [] (.tuple [dateAV (aY (dQ t)) (aM (dQ t)) (aD (dQ t)) (dIn t (dR t / 3600)) (dIn t (dR t / 60 % 60)) (dIn t (dR t % 60)), .bool (inDays (dQ t))]) := by
  refine specF0 (C := T_specDate) (wr := false) (D := fun _ => []) (U := fun _ => none) (res := [dateAV (aY (dQ t)) (aM (dQ t)) (aD (dQ t)) (dIn t (dR t / 3600)) (dIn t (dR t / 60 % 60)) (dIn t (dR t % 60)), .bool (inDays (dQ t))]) Tryz.Ty.mixed T_specDate_ok Tryz.func135 (nA := 1) (by decide +kernel) rfl (fun _ => rfl) ?_
  simp only [Tryz.f135, bodyOf, rlOf]
  rw [W_V]
  simp (config := {maxSteps := 2000000}) only [T_specDate, go_sem, seval, T7, T6, T4, T3, T2, T1]
  (try simp (config := {maxSteps := 2000000}) only [gimp, impB, isT, go_sem, seval])
  simp only [inR] at ht
  have hb := dR_bounds t
  have hd := dQ_bounds ht
  obtain ⟨p1, p2, p3, p4, p5, p6⟩ := day_parts hb
  have fin : ∀ (b : Bool), inDays (dQ t) = b → b = false → AV.agg [AV.int IntKind.i64 0, AV.int IntKind.i64 0, AV.int IntKind.i64 0, AV.int IntKind.i64 0, AV.int IntKind.i64 0, AV.int IntKind.i64 0] =
      dateAV (aY (dQ t)) (aM (dQ t)) (aD (dQ t)) (dIn t (dR t / 3600)) (dIn t (dR t / 60 % 60)) (dIn t (dR t % 60)) := by
    rintro b h rfl
    simp [aY, aM, aD, dIn, h]
  refine ⟨?_, fun hneg => ?_, fun hpos => ?_⟩
  · rcases Int.lt_or_le (t.tmod 86400) 0 with h | h
    · have := date_neg h; omega
    · have := date_pos h; omega
  · obtain ⟨e1, e2, _⟩ := date_neg hneg
    rw [e1, e2, p1, p2, p3, p4]
    refine ⟨by omega, by omega, fun hf => ⟨fin _ rfl hf, hf.symm⟩, fun hf => ?_⟩
    have : inDays (dQ t) = true := by simpa using hf
    refine ⟨by omega, by omega, ?_, this.symm⟩
    simp [dIn, this]
  · obtain ⟨e1, e2⟩ := date_pos hpos
    rw [e1, e2, p1, p2, p3, p4]
    refine ⟨fun hf => ⟨fin _ rfl hf, hf.symm⟩, fun hf => ?_⟩
    have : inDays (dQ t) = true := by simpa using hf
    refine ⟨by omega, by omega, ?_, this.symm⟩
    simp [dIn, this]
def tb_specDate : List Blk → List AV → Option (List Blk × AV × Prop)
  | [], [.int .i64 t] => some ([], .tuple [dateAV (aY (dQ t)) (aM (dQ t)) (aD (dQ t)) (dIn t (dR t / 3600)) (dIn t (dR t / 60 % 60)) (dIn t (dR t % 60)), .bool (inDays (dQ t))], (inR .i64 t))
  | _, _ => none
theorem tb_specDate_ok : ∀ E args E' res p, tb_specDate E args = some (E', res, p) → p → SpecE Tryz.prog 135 E args E' res := by
  intro E args E' res p h hp
  unfold tb_specDate at h
  split at h
  · simp only [Option.some.injEq, Prod.mk.injEq] at h
    obtain ⟨rfl, rfl, rfl⟩ := h
    exact (specDate _ hp)
  · cases h
def T_specDateR : Tbl := fun g E args => T7 g E args
theorem T_specDateR_ok : TblOK Tryz.prog T_specDateR := T7_ok
set_option maxRecDepth 100000 in
set_option maxHeartbeats 4000000 in
theorem specDateR (t : Int) (ht : inR .i64 t) : SpecE Tryz.prog 145 [] [.int .i64 t] [] (.tuple [dateAV (aY (dQ t)) (aM (dQ t)) (aD (dQ t)) (dIn t (dR t / 3600)) (dIn t (dR t / 60 % 60)) (dIn t (dR t % 60)), .bool (inDays (dQ t))]) := by
  refine specF0 (C := T_specDateR) (wr := false) (D := fun _ => []) (U := fun _ => none) (res := [dateAV (aY (dQ t)) (aM (dQ t)) (aD (dQ t)) (dIn t (dR t / 3600)) (dIn t (dR t / 60 % 60)) (dIn t (dR t % 60)), .bool (inDays (dQ t))]) Tryz.Ty.mixed T_specDateR_ok Tryz.func145 (nA := 1) (by decide +kernel) rfl (fun _ => rfl) ?_
  simp only [Tryz.f145, bodyOf, rlOf]
  rw [W_V]
  simp (config := {maxSteps := 2000000}) only [T_specDateR, go_sem, seval, T7, T6, T4, T3, T2, T1]
  (try simp (config := {maxSteps := 2000000}) only [gimp, impB, isT, go_sem, seval])
  simp only [inR] at ht
  have hb := dR_bounds t
  have hd := dQ_bounds ht
  obtain ⟨p1, p2, p3, p4, p5, p6⟩ := day_parts hb
  have out : ∀ {b : Bool}, inDays (dQ t) = b → (b = true → dateAV (aY (dQ t)) (aM (dQ t)) (aD (dQ t)) (dR t / 3600) (dR t / 60 % 60) (dR t % 60) =
      dateAV (aY (dQ t)) (aM (dQ t)) (aD (dQ t)) (dIn t (dR t / 3600)) (dIn t (dR t / 60 % 60)) (dIn t (dR t % 60))) ∧ (b = false → dateAV (aY (dQ t)) (aM (dQ t)) (aD (dQ t)) 0 0 0 =
      dateAV (aY (dQ t)) (aM (dQ t)) (aD (dQ t)) (dIn t (dR t / 3600)) (dIn t (dR t / 60 % 60)) (dIn t (dR t % 60))) := by
    rintro b rfl
    exact ⟨fun h => by simp [dIn, h], fun h => by simp [dIn, h]⟩
  refine ⟨fun hneg => ?_, fun hpos => ?_⟩
  · obtain ⟨e1, e2, e3⟩ := date_neg hneg
    rw [e1, e2, p1, p4, p5, p6]
    refine ⟨by omega, by omega, fun _ _ => ⟨by omega, fun hf => ⟨by omega, by omega, (out rfl).1 hf, rfl⟩, fun hf => ⟨(out rfl).2 hf, rfl⟩⟩, fun hf => ?_⟩
    exfalso
    simp [e3] at hf
    omega
  · obtain ⟨e1, e2⟩ := date_pos hpos
    rw [e1, e2, p1, p4, p5, p6]
    refine ⟨by omega, fun h1 h2 => ?_, fun _ => ⟨fun hf => ⟨by omega, by omega, (out rfl).1 hf, rfl⟩, fun hf => ⟨(out rfl).2 hf, rfl⟩⟩⟩
    exfalso
    rcases tdiv_cases t 86400 (by omega) with ⟨a, b, c⟩ | ⟨a, b, c⟩ <;> omega
def tb_specDateR : List Blk → List AV → Option (List Blk × AV × Prop)
  | [], [.int .i64 t] => some ([], .tuple [dateAV (aY (dQ t)) (aM (dQ t)) (aD (dQ t)) (dIn t (dR t / 3600)) (dIn t (dR t / 60 % 60)) (dIn t (dR t % 60)), .bool (inDays (dQ t))], (inR .i64 t))
  | _, _ => none
theorem tb_specDateR_ok : ∀ E args E' res p, tb_specDateR E args = some (E', res, p) → p → SpecE Tryz.prog 145 E args E' res := by
  intro E args E' res p h hp
  unfold tb_specDateR at h
  split at h
  · simp only [Option.some.injEq, Prod.mk.injEq] at h
    obtain ⟨rfl, rfl, rfl⟩ := h
    exact (specDateR _ hp)
  · cases h
theorem in_iff {n : Int} : inDays n = true ↔ -719162 ≤ n ∧ n ≤ 2932896 := by simp [inDays]
theorem day_back {n : Int} (h : inDays n = true) : dayAns (aY n) (aM n) (aD n) = n ∧ right (aY n) (aM n) (aD n) = true := by
  obtain ⟨h1, h2⟩ := of_right (in_iff.1 h)
  simp only [aY, aM, aD, h, if_true, dayAns, h1, h2, and_self]
theorem sec_back {t : Int} (h : inDays (dQ t) = true) : secNo (aY (dQ t)) (aM (dQ t)) (aD (dQ t)) (dIn t (dR t / 3600)) (dIn t (dR t / 60 % 60)) (dIn t (dR t % 60)) = t ∧
    secOk (aY (dQ t)) (aM (dQ t)) (aD (dQ t)) (dIn t (dR t / 3600)) (dIn t (dR t / 60 % 60)) (dIn t (dR t % 60)) = true := by
  obtain ⟨h1, h2⟩ := day_back h
  have hb := dR_bounds t
  have hd : dayNo (aY (dQ t)) (aM (dQ t)) (aD (dQ t)) = dQ t := by simpa [dayAns, h2] using h1
  have hok : secOk (aY (dQ t)) (aM (dQ t)) (aD (dQ t)) (dIn t (dR t / 3600)) (dIn t (dR t / 60 % 60)) (dIn t (dR t % 60)) = true := by
    rw [secOk_iff]
    simp only [dIn, h, if_true]
    exact ⟨h2, by omega, by omega, by omega⟩
  refine ⟨?_, hok⟩
  have e1 : dQ t * 86400 + dR t = t := by unfold dQ dR; omega
  unfold secNo
  rw [if_pos hok, hd]
  simp only [dIn, if_pos h]
  omega
end Go.Proofs.Tryz.Civil
end
section
set_option linter.unusedVariables false
set_option linter.unusedSimpArgs false
namespace Go.Mdl
open Go Go.Abs
theorem part_bad (c : UInt8) (p : Rd) (h : p.bad = true) : (partS c p).bad = true := by
  unfold partS
  (repeat' split) <;> simp [Rd.word, Rd.num, h]
theorem run_bad (pat : List UInt8) (p : Rd) (h : p.bad = true) : (runS pat p).bad = true := by
  unfold runS
  induction pat generalizing p with
  | nil => exact h
  | cons c t ih => exact ih _ (part_bad c p h)
theorem runS_cons (c : UInt8) (t : List UInt8) (p : Rd) : runS (c :: t) p = runS t (partS c p) := rfl
theorem runS_nil (p : Rd) : runS [] p = p := rfl
def nOK (w : Nat) (x : List UInt8) : Prop := x.length = w ∧ numErr 10 9999 x = 0
def nVal (x : List UInt8) : Int := numVal 10 9999 x
def ixN (l : List (List UInt8)) (s : List UInt8) : Int := idxP (fun w => decide (w = s)) l
theorem isPrefixOf_take {w s : List UInt8} {L : Nat} (h : w.length = L) : w.isPrefixOf s = decide (w = s.take L) := by
  subst h
  rw [Bool.eq_iff_iff, List.isPrefixOf_iff_prefix, decide_eq_true_eq, List.prefix_iff_eq_take]
theorem wHit_uni {l : List (List UInt8)} {L : Nat} (hl : ∀ w ∈ l, w.length = L) (s : List UInt8) : wHit l s = decide (s.take L ∈ l) := by
  rw [Bool.eq_iff_iff, decide_eq_true_eq]
  unfold wHit
  rw [List.any_eq_true]
  constructor
  · rintro ⟨w, hw, h⟩
    have := isPrefixOf_take (s := s) (hl w hw)
    have h2 : w.isPrefixOf s = true := h
    rw [this, decide_eq_true_eq] at h2
    rw [← h2]; exact hw
  · intro h
    exact ⟨_, h, by have := isPrefixOf_take (s := s) (hl _ h); show List.isPrefixOf _ _ = true; rw [this]; simp⟩
theorem wIx_uni {l : List (List UInt8)} {L : Nat} (hl : ∀ w ∈ l, w.length = L) (s : List UInt8) : wIx l s = l.findIdx (fun w => decide (w = s.take L)) := by
  unfold wIx
  induction l with
  | nil => rfl
  | cons w t ih =>
    have e : Lib.hasPrefix s w = decide (w = s.take L) := isPrefixOf_take (hl w (by simp))
    rw [List.findIdx_cons, List.findIdx_cons, e, ih (fun w h => hl w (by simp [h]))]
theorem ixN_mem {l : List (List UInt8)} {s : List UInt8} (h : s ∈ l) : ixN l s = (l.findIdx (fun w => decide (w = s)) : Int) ∧ 0 ≤ ixN l s := by
  have : l.any (fun w => decide (w = s)) = true := by rw [List.any_eq_true]; exact ⟨s, h, by simp⟩
  unfold ixN idxP
  rw [if_pos this]
  exact ⟨rfl, by omega⟩
theorem ixN_not {l : List (List UInt8)} {s : List UInt8} (h : ¬ s ∈ l) : ixN l s = -1 := by
  apply idxP_none
  rw [← Bool.not_eq_true, List.any_eq_true]
  rintro ⟨w, hw, e⟩
  rw [decide_eq_true_eq] at e
  exact h (e ▸ hw)
theorem ixN_ge {l : List (List UInt8)} {s : List UInt8} : 0 ≤ ixN l s ↔ s ∈ l := by
  by_cases h : s ∈ l
  · simp [h, (ixN_mem h).2]
  · simp [h, ixN_not h]
theorem uni_getD {l : List (List UInt8)} {L : Nat} (hl : ∀ w ∈ l, w.length = L) {k : Nat} (h : k < l.length) : (l.getD k []).length = L := by
  apply hl
  rw [List.getD_eq_getElem?_getD, List.getElem?_eq_getElem h]
  exact List.getElem_mem h
theorem word_uni {l : List (List UInt8)} {L : Nat} (hl : ∀ w ∈ l, w.length = L) (s : List UInt8) :
    (s.take L ∈ l → wdS l s = s.drop L ∧ wdB l s = false ∧ wdN l s = ixN l (s.take L)) ∧ (¬ s.take L ∈ l → wdB l s = true) := by
  have e := wHit_uni hl s
  constructor
  · intro h
    have e1 : wHit l s = true := by rw [e]; simpa using h
    obtain ⟨g1, g2⟩ := ixN_mem h
    have e2 := wIx_uni hl s
    refine ⟨?_, by simp [wdB, e1], by rw [wdN, if_pos e1, e2, g1]⟩
    rw [wdS, if_pos e1]
    congr 1
    apply uni_getD hl
    rw [e2, List.findIdx_lt_length]
    exact ⟨_, h, by simp⟩
  · intro h
    simp [wdB, e, h]
theorem days3_uni : ∀ w ∈ hdDays3, w.length = 3 := by decide
theorem months_uni : ∀ w ∈ hdMonths, w.length = 3 := by decide
theorem one_uni (c : UInt8) : ∀ w ∈ [[c]], w.length = 1 := by simp
theorem gmt_uni : ∀ w ∈ [([71, 77, 84] : List UInt8)], w.length = 3 := by decide
theorem num_take {w : Nat} (s : List UInt8) : (nOK w (s.take w) → nmS w s = s.drop w ∧ nmB w s = false ∧ nmN w s = nVal (s.take w)) ∧ (¬ nOK w (s.take w) → nmB w s = true) := by
  unfold nOK
  rw [List.length_take]
  constructor
  · rintro ⟨h1, h2⟩
    have h3 : ¬ s.length < w := by omega
    exact ⟨by simp [nmS, h3], by simp [nmB, h3, h2], by simp [nmN, h3, nVal]⟩
  · intro h
    unfold nmB
    by_cases h3 : s.length < w
    · simp [h3]
    · have : ¬ numErr 10 9999 (s.take w) = 0 := fun e => h ⟨by omega, e⟩
      simp [this]
theorem st_w (p : Rd) (hp : p.bad = false) : (p.s.take 3 ∈ hdDays3 ∧ partS 119 p = { p with s := p.s.drop 3, week := ixN hdDays3 (p.s.take 3) }) ∨ (¬ p.s.take 3 ∈ hdDays3 ∧ (partS 119 p).bad = true) := by
  obtain ⟨h1, h2⟩ := word_uni days3_uni p.s
  by_cases h : p.s.take 3 ∈ hdDays3
  · obtain ⟨a, b, c⟩ := h1 h
    left; refine ⟨h, ?_⟩
    simp [partS, Rd.word, a, b, c, hp]
  · right; exact ⟨h, by simp [partS, Rd.word, h2 h]⟩
theorem st_m (p : Rd) (hp : p.bad = false) : (p.s.take 3 ∈ hdMonths ∧ partS 109 p = { p with s := p.s.drop 3, mo := ixN hdMonths (p.s.take 3) + 1 }) ∨ (¬ p.s.take 3 ∈ hdMonths ∧ (partS 109 p).bad = true) := by
  obtain ⟨h1, h2⟩ := word_uni months_uni p.s
  by_cases h : p.s.take 3 ∈ hdMonths
  · obtain ⟨a, b, c⟩ := h1 h
    left; refine ⟨h, ?_⟩
    simp [partS, Rd.word, a, b, c, hp]
  · right; exact ⟨h, by simp [partS, Rd.word, h2 h]⟩
theorem st_z (p : Rd) (hp : p.bad = false) : (p.s.take 3 = [71, 77, 84] ∧ partS 122 p = { p with s := p.s.drop 3 }) ∨ (¬ p.s.take 3 = [71, 77, 84] ∧ (partS 122 p).bad = true) := by
  obtain ⟨h1, h2⟩ := word_uni gmt_uni p.s
  rw [List.mem_singleton] at h1 h2
  by_cases h : p.s.take 3 = [71, 77, 84]
  · obtain ⟨a, b, c⟩ := h1 h
    left; refine ⟨h, ?_⟩
    simp [partS, Rd.word, a, b, hp]
  · right; exact ⟨h, by simp [partS, Rd.word, h2 h]⟩
theorem st_c (c : UInt8) (hc : c = 32 ∨ c = 44 ∨ c = 45) (p : Rd) (hp : p.bad = false) : (p.s.take 1 = [c] ∧ partS c p = { p with s := p.s.drop 1 }) ∨ (¬ p.s.take 1 = [c] ∧ (partS c p).bad = true) := by
  obtain ⟨h1, h2⟩ := word_uni (one_uni c) p.s
  rw [List.mem_singleton] at h1 h2
  by_cases h : p.s.take 1 = [c]
  · obtain ⟨a, b, _⟩ := h1 h
    left; refine ⟨h, ?_⟩
    rcases hc with rfl | rfl | rfl <;> simp [partS, Rd.word, a, b, hp]
  · right; refine ⟨h, ?_⟩
    have := h2 h
    rcases hc with rfl | rfl | rfl <;> simp [partS, Rd.word, this]
theorem st_d (p : Rd) (hp : p.bad = false) : (nOK 2 (p.s.take 2) ∧ partS 100 p = { p with s := p.s.drop 2, d := nVal (p.s.take 2) }) ∨ (¬ nOK 2 (p.s.take 2) ∧ (partS 100 p).bad = true) := by
  obtain ⟨h1, h2⟩ := num_take (w := 2) p.s
  by_cases h : nOK 2 (p.s.take 2)
  · obtain ⟨a, b, c⟩ := h1 h
    left; exact ⟨h, by simp [partS, Rd.num, a, b, c, hp]⟩
  · right; exact ⟨h, by simp [partS, Rd.num, h2 h]⟩
theorem st_y (p : Rd) (hp : p.bad = false) : (nOK 4 (p.s.take 4) ∧ partS 121 p = { p with s := p.s.drop 4, y := nVal (p.s.take 4) }) ∨ (¬ nOK 4 (p.s.take 4) ∧ (partS 121 p).bad = true) := by
  obtain ⟨h1, h2⟩ := num_take (w := 4) p.s
  by_cases h : nOK 4 (p.s.take 4)
  · obtain ⟨a, b, c⟩ := h1 h
    left; exact ⟨h, by simp [partS, Rd.num, a, b, c, hp]⟩
  · right; exact ⟨h, by simp [partS, Rd.num, h2 h]⟩
theorem st_k (p : Rd) (hp : p.bad = false) : (nOK 2 (p.s.take 2) ∧ partS 107 p = { p with s := p.s.drop 2, y := nVal (p.s.take 2), two := true }) ∨ (¬ nOK 2 (p.s.take 2) ∧ (partS 107 p).bad = true) := by
  obtain ⟨h1, h2⟩ := num_take (w := 2) p.s
  by_cases h : nOK 2 (p.s.take 2)
  · obtain ⟨a, b, c⟩ := h1 h
    left; exact ⟨h, by simp [partS, Rd.num, a, b, c, hp]⟩
  · right; exact ⟨h, by simp [partS, Rd.num, h2 h]⟩
def bOK (x : List UInt8) : Prop := x.take 1 = [32] ∧ nOK 1 ((x.drop 1).take 1) ∨ ¬ x.take 1 = [32] ∧ nOK 2 (x.take 2)
def bVal (x : List UInt8) : Int := if x.take 1 = [32] then nVal ((x.drop 1).take 1) else nVal (x.take 2)
theorem blank_take (s : List UInt8) : Lib.hasPrefix s [32] = decide (s.take 1 = [32]) := by
  have := isPrefixOf_take (s := s) (w := [32]) (L := 1) rfl
  show List.isPrefixOf [32] s = _
  rw [this, Bool.eq_iff_iff, decide_eq_true_eq, decide_eq_true_eq]
  exact eq_comm
theorem st_b (p : Rd) (hp : p.bad = false) : (bOK p.s ∧ partS 98 p = { p with s := p.s.drop 2, d := bVal p.s }) ∨ (¬ bOK p.s ∧ (partS 98 p).bad = true) := by
  have hb := blank_take p.s
  by_cases hc : p.s.take 1 = [32]
  · have e1 : blS p.s = p.s.drop 1 := by simp [blS, hb, hc]
    have e2 : blW p.s = 1 := by simp [blW, hb, hc]
    obtain ⟨h1, h2⟩ := num_take (w := 1) (p.s.drop 1)
    by_cases h : nOK 1 ((p.s.drop 1).take 1)
    · obtain ⟨a, b, c⟩ := h1 h
      left; exact ⟨Or.inl ⟨hc, h⟩, by simp [partS, e1, e2, a, b, c, hp, bVal, hc, -List.drop_one]⟩
    · right; exact ⟨by simp [bOK, hc, h, -List.drop_one], by simp [partS, e1, e2, h2 h, -List.drop_one]⟩
  · have e1 : blS p.s = p.s := by simp [blS, hb, hc]
    have e2 : blW p.s = 2 := by simp [blW, hb, hc]
    obtain ⟨h1, h2⟩ := num_take (w := 2) p.s
    by_cases h : nOK 2 (p.s.take 2)
    · obtain ⟨a, b, c⟩ := h1 h
      left; exact ⟨Or.inr ⟨hc, h⟩, by simp [partS, e1, e2, a, b, c, hp, bVal, hc]⟩
    · right; exact ⟨by simp [bOK, hc, h], by simp [partS, e1, e2, h2 h]⟩
def tOK (x : List UInt8) : Prop := nOK 2 (x.take 2) ∧ (x.drop 2).take 1 = [58] ∧ nOK 2 ((x.drop 3).take 2) ∧ (x.drop 5).take 1 = [58] ∧ nOK 2 ((x.drop 6).take 2)
theorem st_t (p : Rd) (hp : p.bad = false) : (tOK p.s ∧ partS 116 p = { p with s := p.s.drop 8, h := nVal (p.s.take 2), mi := nVal ((p.s.drop 3).take 2), se := nVal ((p.s.drop 6).take 2) }) ∨ (¬ tOK p.s ∧ (partS 116 p).bad = true) := by
  have w1 : ∀ x : List UInt8, (x.take 1 = [58] → wdS [[58]] x = x.drop 1 ∧ wdB [[58]] x = false) ∧ (¬ x.take 1 = [58] → wdB [[58]] x = true) := by
    intro x
    obtain ⟨h1, h2⟩ := word_uni (one_uni 58) x
    rw [List.mem_singleton] at h1 h2
    exact ⟨fun h => ⟨(h1 h).1, (h1 h).2.1⟩, h2⟩
  unfold tOK
  by_cases a1 : nOK 2 (p.s.take 2)
  rotate_left
  · right; exact ⟨fun h => a1 h.1, by simp [partS, (num_take (w := 2) p.s).2 a1]⟩
  obtain ⟨b1, c1, d1⟩ := (num_take (w := 2) p.s).1 a1
  by_cases a2 : (p.s.drop 2).take 1 = [58]
  rotate_left
  · right; exact ⟨fun h => a2 h.2.1, by simp [partS, b1, (w1 _).2 a2]⟩
  obtain ⟨b2, c2⟩ := (w1 _).1 a2
  have e2 : (p.s.drop 2).drop 1 = p.s.drop 3 := by rw [List.drop_drop]
  rw [e2] at b2
  by_cases a3 : nOK 2 ((p.s.drop 3).take 2)
  rotate_left
  · right; exact ⟨fun h => a3 h.2.2.1, by simp [partS, b1, b2, (num_take (w := 2) _).2 a3]⟩
  obtain ⟨b3, c3, d3⟩ := (num_take (w := 2) (p.s.drop 3)).1 a3
  have e3 : (p.s.drop 3).drop 2 = p.s.drop 5 := by rw [List.drop_drop]
  rw [e3] at b3
  by_cases a4 : (p.s.drop 5).take 1 = [58]
  rotate_left
  · right; exact ⟨fun h => a4 h.2.2.2.1, by simp [partS, b1, b2, b3, (w1 _).2 a4]⟩
  obtain ⟨b4, c4⟩ := (w1 _).1 a4
  have e4 : (p.s.drop 5).drop 1 = p.s.drop 6 := by rw [List.drop_drop]
  rw [e4] at b4
  by_cases a5 : nOK 2 ((p.s.drop 6).take 2)
  rotate_left
  · right; exact ⟨fun h => a5 h.2.2.2.2, by simp [partS, b1, b2, b3, b4, (num_take (w := 2) _).2 a5]⟩
  obtain ⟨b5, c5, d5⟩ := (num_take (w := 2) (p.s.drop 6)).1 a5
  have e5 : (p.s.drop 6).drop 2 = p.s.drop 8 := by rw [List.drop_drop]
  rw [e5] at b5
  left; exact ⟨⟨a1, a2, a3, a4, a5⟩, by simp [partS, b1, b2, b3, b4, b5, c1, c2, c3, c4, c5, d1, d3, d5, hp]⟩
end Go.Mdl
end
