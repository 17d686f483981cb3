/- Facts about the seat's types. No condition. -/
import Derived.Test.YtlkfjkimnkhelaaDoorAbsT
import Derived.Test.YtlkfjkimnkhelaaDoorProg
import Derived.KernelRfl
set_option linter.unusedVariables false
namespace Go.Proofs.Tryd.Ty
open Go Go.Abs Go.Proofs

theorem mixed : Tryd.prog.follows .mixedOrders = true := by kernel_rfl
theorem g1 : Tryd.prog.eqGuardType Tryd.prog.depth 1 = false := by kernel_rfl
theorem s2 : szT Tryd.prog 2 = some 1 := by kernel_rfl
theorem b2 : byT Tryd.prog 2 = some 8 := by kernel_rfl
theorem a2 : aggT Tryd.prog 2 = some false := by kernel_rfl
theorem z2 : zT Tryd.prog 2 = some (.int .i64 0) := by kernel_rfl
theorem s3 : szT Tryd.prog 3 = some 1 := by kernel_rfl
theorem b3 : byT Tryd.prog 3 = some 8 := by kernel_rfl
theorem a3 : aggT Tryd.prog 3 = some false := by kernel_rfl
theorem z3 : zT Tryd.prog 3 = some (.int .i64 0) := by kernel_rfl
theorem s4 : szT Tryd.prog 4 = some 1 := by kernel_rfl
theorem b4 : byT Tryd.prog 4 = some 1 := by kernel_rfl
theorem a4 : aggT Tryd.prog 4 = some false := by kernel_rfl
theorem z4 : zT Tryd.prog 4 = some (.bool false) := by kernel_rfl
theorem s5 : szT Tryd.prog 5 = some 1 := by kernel_rfl
theorem b5 : byT Tryd.prog 5 = some 1 := by kernel_rfl
theorem a5 : aggT Tryd.prog 5 = some false := by kernel_rfl
theorem z5 : zT Tryd.prog 5 = some (.int .u8 0) := by kernel_rfl
theorem s6 : szT Tryd.prog 6 = some 1 := by kernel_rfl
theorem b6 : byT Tryd.prog 6 = some 1 := by kernel_rfl
theorem a6 : aggT Tryd.prog 6 = some false := by kernel_rfl
theorem z6 : zT Tryd.prog 6 = some (.int .u8 0) := by kernel_rfl
theorem s7 : szT Tryd.prog 7 = some 4 := by kernel_rfl
theorem b7 : byT Tryd.prog 7 = some 24 := by kernel_rfl
theorem a7 : aggT Tryd.prog 7 = some true := by kernel_rfl
theorem g7 : Tryd.prog.eqGuardType Tryd.prog.depth 7 = false := by kernel_rfl
theorem h7 : Tryd.prog.stoodInHeld 7 = false := by kernel_rfl
theorem z7 : zT Tryd.prog 7 = some (.agg [.int .i64 0, .int .i64 0, .bool false, .int .u8 0]) := by kernel_rfl
theorem s8 : szT Tryd.prog 8 = some 4 := by kernel_rfl
theorem b8 : byT Tryd.prog 8 = some 24 := by kernel_rfl
theorem a8 : aggT Tryd.prog 8 = some true := by kernel_rfl
theorem g8 : Tryd.prog.eqGuardType Tryd.prog.depth 8 = false := by kernel_rfl
theorem h8 : Tryd.prog.stoodInHeld 8 = false := by kernel_rfl
theorem z8 : zT Tryd.prog 8 = some (.agg [.int .i64 0, .int .i64 0, .bool false, .int .u8 0]) := by kernel_rfl
theorem s9 : szT Tryd.prog 9 = some 1 := by kernel_rfl
theorem b9 : byT Tryd.prog 9 = some 16 := by kernel_rfl
theorem a9 : aggT Tryd.prog 9 = some false := by kernel_rfl
theorem z9 : zT Tryd.prog 9 = some (.str []) := by kernel_rfl
theorem s10 : szT Tryd.prog 10 = some 1 := by kernel_rfl
theorem b10 : byT Tryd.prog 10 = some 16 := by kernel_rfl
theorem a10 : aggT Tryd.prog 10 = some false := by kernel_rfl
theorem z10 : zT Tryd.prog 10 = some (.str []) := by kernel_rfl
theorem s11 : szT Tryd.prog 11 = some 1 := by kernel_rfl
theorem b11 : byT Tryd.prog 11 = some 16 := by kernel_rfl
theorem a11 : aggT Tryd.prog 11 = some false := by kernel_rfl
theorem z11 : zT Tryd.prog 11 = some (.str []) := by kernel_rfl
theorem s12 : szT Tryd.prog 12 = some 1 := by kernel_rfl
theorem b12 : byT Tryd.prog 12 = some 8 := by kernel_rfl
theorem a12 : aggT Tryd.prog 12 = some false := by kernel_rfl
theorem z12 : zT Tryd.prog 12 = some (.int .u64 0) := by kernel_rfl
theorem s13 : szT Tryd.prog 13 = some 2 := by kernel_rfl
theorem b13 : byT Tryd.prog 13 = some 24 := by kernel_rfl
theorem a13 : aggT Tryd.prog 13 = some true := by kernel_rfl
theorem z13 : zT Tryd.prog 13 = some (.agg [.str [], .int .u64 0]) := by kernel_rfl
theorem s14 : szT Tryd.prog 14 = some 2 := by kernel_rfl
theorem b14 : byT Tryd.prog 14 = some 24 := by kernel_rfl
theorem a14 : aggT Tryd.prog 14 = some true := by kernel_rfl
theorem z14 : zT Tryd.prog 14 = some (.agg [.str [], .int .u64 0]) := by kernel_rfl
theorem g15 : Tryd.prog.eqGuardType Tryd.prog.depth 15 = false := by kernel_rfl
theorem s15 : szT Tryd.prog 15 = some 1 := by kernel_rfl
theorem b15 : byT Tryd.prog 15 = some 8 := by kernel_rfl
theorem a15 : aggT Tryd.prog 15 = some false := by kernel_rfl
theorem z15 : zT Tryd.prog 15 = some (.nilp) := by kernel_rfl
theorem g16 : Tryd.prog.eqGuardType Tryd.prog.depth 16 = false := by kernel_rfl
theorem s16 : szT Tryd.prog 16 = some 1 := by kernel_rfl
theorem b16 : byT Tryd.prog 16 = some 8 := by kernel_rfl
theorem a16 : aggT Tryd.prog 16 = some false := by kernel_rfl
theorem z16 : zT Tryd.prog 16 = some (.nilp) := by kernel_rfl
theorem g17 : Tryd.prog.eqGuardType Tryd.prog.depth 17 = false := by kernel_rfl
theorem s17 : szT Tryd.prog 17 = some 1 := by kernel_rfl
theorem b17 : byT Tryd.prog 17 = some 8 := by kernel_rfl
theorem a17 : aggT Tryd.prog 17 = some false := by kernel_rfl
theorem z17 : zT Tryd.prog 17 = some (.nilp) := by kernel_rfl
theorem s18 : szT Tryd.prog 18 = some 1 := by kernel_rfl
theorem b18 : byT Tryd.prog 18 = some 8 := by kernel_rfl
theorem a18 : aggT Tryd.prog 18 = some true := by kernel_rfl
theorem z18 : zT Tryd.prog 18 = some (.agg [.nilp]) := by kernel_rfl
theorem s19 : szT Tryd.prog 19 = some 1 := by kernel_rfl
theorem b19 : byT Tryd.prog 19 = some 8 := by kernel_rfl
theorem a19 : aggT Tryd.prog 19 = some true := by kernel_rfl
theorem z19 : zT Tryd.prog 19 = some (.agg [.nilp]) := by kernel_rfl
theorem s20 : szT Tryd.prog 20 = some 1 := by kernel_rfl
theorem b20 : byT Tryd.prog 20 = some 16 := by kernel_rfl
theorem a20 : aggT Tryd.prog 20 = some false := by kernel_rfl
theorem z20 : zT Tryd.prog 20 = some (.nili) := by kernel_rfl
theorem s21 : szT Tryd.prog 21 = some 1 := by kernel_rfl
theorem b21 : byT Tryd.prog 21 = some 4 := by kernel_rfl
theorem a21 : aggT Tryd.prog 21 = some false := by kernel_rfl
theorem z21 : zT Tryd.prog 21 = some (.int .i32 0) := by kernel_rfl
theorem s22 : szT Tryd.prog 22 = some 5 := by kernel_rfl
theorem b22 : byT Tryd.prog 22 = some 40 := by kernel_rfl
theorem a22 : aggT Tryd.prog 22 = some true := by kernel_rfl
theorem g22 : Tryd.prog.eqGuardType Tryd.prog.depth 22 = false := by kernel_rfl
theorem h22 : Tryd.prog.stoodInHeld 22 = false := by kernel_rfl
theorem z22 : zT Tryd.prog 22 = some (.agg [.int .i64 0, .int .i64 0, .int .i64 0, .int .i64 0, .int .i64 0]) := by kernel_rfl
theorem s23 : szT Tryd.prog 23 = some 5 := by kernel_rfl
theorem b23 : byT Tryd.prog 23 = some 40 := by kernel_rfl
theorem a23 : aggT Tryd.prog 23 = some true := by kernel_rfl
theorem g23 : Tryd.prog.eqGuardType Tryd.prog.depth 23 = false := by kernel_rfl
theorem h23 : Tryd.prog.stoodInHeld 23 = false := by kernel_rfl
theorem z23 : zT Tryd.prog 23 = some (.agg [.int .i64 0, .int .i64 0, .int .i64 0, .int .i64 0, .int .i64 0]) := by kernel_rfl
theorem s24 : szT Tryd.prog 24 = some 18 := by kernel_rfl
theorem b24 : byT Tryd.prog 24 = some 160 := by kernel_rfl
theorem a24 : aggT Tryd.prog 24 = some true := by kernel_rfl
theorem g24 : Tryd.prog.eqGuardType Tryd.prog.depth 24 = false := by kernel_rfl
theorem h24 : Tryd.prog.stoodInHeld 24 = false := by kernel_rfl
theorem z24 : zT Tryd.prog 24 = some (.agg [.str [], .str [], .int .i64 0, .int .i64 0, .int .i64 0, .int .i64 0, .int .i64 0, .int .i64 0, .int .i64 0, .int .i64 0, .int .i64 0, .int .i64 0, .int .i64 0, .int .i64 0, .int .i64 0, .int .i64 0, .int .i64 0, .int .i64 0]) := by kernel_rfl
theorem s25 : szT Tryd.prog 25 = some 18 := by kernel_rfl
theorem b25 : byT Tryd.prog 25 = some 160 := by kernel_rfl
theorem a25 : aggT Tryd.prog 25 = some true := by kernel_rfl
theorem g25 : Tryd.prog.eqGuardType Tryd.prog.depth 25 = false := by kernel_rfl
theorem h25 : Tryd.prog.stoodInHeld 25 = false := by kernel_rfl
theorem z25 : zT Tryd.prog 25 = some (.agg [.str [], .str [], .int .i64 0, .int .i64 0, .int .i64 0, .int .i64 0, .int .i64 0, .int .i64 0, .int .i64 0, .int .i64 0, .int .i64 0, .int .i64 0, .int .i64 0, .int .i64 0, .int .i64 0, .int .i64 0, .int .i64 0, .int .i64 0]) := by kernel_rfl
theorem s26 : szT Tryd.prog 26 = some 1 := by kernel_rfl
theorem b26 : byT Tryd.prog 26 = some 8 := by kernel_rfl
theorem a26 : aggT Tryd.prog 26 = some false := by kernel_rfl
theorem z26 : zT Tryd.prog 26 = some (.int .i64 0) := by kernel_rfl
theorem g28 : Tryd.prog.eqGuardType Tryd.prog.depth 28 = false := by kernel_rfl
theorem g29 : Tryd.prog.eqGuardType Tryd.prog.depth 29 = false := by kernel_rfl
theorem g30 : Tryd.prog.eqGuardType Tryd.prog.depth 30 = false := by kernel_rfl
theorem s31 : szT Tryd.prog 31 = some 3 := by kernel_rfl
theorem b31 : byT Tryd.prog 31 = some 40 := by kernel_rfl
theorem a31 : aggT Tryd.prog 31 = some true := by kernel_rfl
theorem g31 : Tryd.prog.eqGuardType Tryd.prog.depth 31 = false := by kernel_rfl
theorem h31 : Tryd.prog.stoodInHeld 31 = false := by kernel_rfl
theorem z31 : zT Tryd.prog 31 = some (.agg [.int .i64 0, .str [], .str []]) := by kernel_rfl
theorem s32 : szT Tryd.prog 32 = some 3 := by kernel_rfl
theorem b32 : byT Tryd.prog 32 = some 40 := by kernel_rfl
theorem a32 : aggT Tryd.prog 32 = some true := by kernel_rfl
theorem g32 : Tryd.prog.eqGuardType Tryd.prog.depth 32 = false := by kernel_rfl
theorem h32 : Tryd.prog.stoodInHeld 32 = false := by kernel_rfl
theorem z32 : zT Tryd.prog 32 = some (.agg [.int .i64 0, .str [], .str []]) := by kernel_rfl
theorem g34 : Tryd.prog.eqGuardType Tryd.prog.depth 34 = false := by kernel_rfl
theorem g35 : Tryd.prog.eqGuardType Tryd.prog.depth 35 = false := by kernel_rfl
theorem g36 : Tryd.prog.eqGuardType Tryd.prog.depth 36 = false := by kernel_rfl
theorem g37 : Tryd.prog.eqGuardType Tryd.prog.depth 37 = false := by kernel_rfl
theorem g38 : Tryd.prog.eqGuardType Tryd.prog.depth 38 = false := by kernel_rfl
theorem g39 : Tryd.prog.eqGuardType Tryd.prog.depth 39 = false := by kernel_rfl
theorem s39 : szT Tryd.prog 39 = some 1 := by kernel_rfl
theorem b39 : byT Tryd.prog 39 = some 24 := by kernel_rfl
theorem a39 : aggT Tryd.prog 39 = some false := by kernel_rfl
theorem z39 : zT Tryd.prog 39 = some (.nils) := by kernel_rfl
theorem g40 : Tryd.prog.eqGuardType Tryd.prog.depth 40 = false := by kernel_rfl
theorem g41 : Tryd.prog.eqGuardType Tryd.prog.depth 41 = false := by kernel_rfl
theorem s41 : szT Tryd.prog 41 = some 1 := by kernel_rfl
theorem b41 : byT Tryd.prog 41 = some 8 := by kernel_rfl
theorem a41 : aggT Tryd.prog 41 = some false := by kernel_rfl
theorem z41 : zT Tryd.prog 41 = some (.nilp) := by kernel_rfl
theorem s42 : szT Tryd.prog 42 = some 3 := by kernel_rfl
theorem b42 : byT Tryd.prog 42 = some 24 := by kernel_rfl
theorem a42 : aggT Tryd.prog 42 = some true := by kernel_rfl
theorem z42 : zT Tryd.prog 42 = some (.agg [.nilp, .int .i64 0, .int .i64 0]) := by kernel_rfl
theorem s43 : szT Tryd.prog 43 = some 3 := by kernel_rfl
theorem b43 : byT Tryd.prog 43 = some 24 := by kernel_rfl
theorem a43 : aggT Tryd.prog 43 = some true := by kernel_rfl
theorem z43 : zT Tryd.prog 43 = some (.agg [.nilp, .int .i64 0, .int .i64 0]) := by kernel_rfl
theorem s44 : szT Tryd.prog 44 = some 48 := by kernel_rfl
theorem b44 : byT Tryd.prog 44 = some 384 := by kernel_rfl
theorem a44 : aggT Tryd.prog 44 = some true := by kernel_rfl
theorem z44 : zT Tryd.prog 44 = some (.agg [.nilp, .int .i64 0, .int .i64 0, .nilp, .int .i64 0, .int .i64 0, .nilp, .int .i64 0, .int .i64 0, .nilp, .int .i64 0, .int .i64 0, .nilp, .int .i64 0, .int .i64 0, .nilp, .int .i64 0, .int .i64 0, .nilp, .int .i64 0, .int .i64 0, .nilp, .int .i64 0, .int .i64 0, .nilp, .int .i64 0, .int .i64 0, .nilp, .int .i64 0, .int .i64 0, .nilp, .int .i64 0, .int .i64 0, .nilp, .int .i64 0, .int .i64 0, .nilp, .int .i64 0, .int .i64 0, .nilp, .int .i64 0, .int .i64 0, .nilp, .int .i64 0, .int .i64 0, .nilp, .int .i64 0, .int .i64 0]) := by kernel_rfl
theorem g45 : Tryd.prog.eqGuardType Tryd.prog.depth 45 = false := by kernel_rfl
theorem g46 : Tryd.prog.eqGuardType Tryd.prog.depth 46 = false := by kernel_rfl
theorem s46 : szT Tryd.prog 46 = some 1 := by kernel_rfl
theorem b46 : byT Tryd.prog 46 = some 8 := by kernel_rfl
theorem a46 : aggT Tryd.prog 46 = some false := by kernel_rfl
theorem z46 : zT Tryd.prog 46 = some (.nilp) := by kernel_rfl
theorem g48 : Tryd.prog.eqGuardType Tryd.prog.depth 48 = false := by kernel_rfl
theorem g49 : Tryd.prog.eqGuardType Tryd.prog.depth 49 = false := by kernel_rfl
theorem g50 : Tryd.prog.eqGuardType Tryd.prog.depth 50 = false := by kernel_rfl
theorem g51 : Tryd.prog.eqGuardType Tryd.prog.depth 51 = false := by kernel_rfl
theorem s51 : szT Tryd.prog 51 = some 1 := by kernel_rfl
theorem b51 : byT Tryd.prog 51 = some 24 := by kernel_rfl
theorem a51 : aggT Tryd.prog 51 = some false := by kernel_rfl
theorem z51 : zT Tryd.prog 51 = some (.nils) := by kernel_rfl
theorem g52 : Tryd.prog.eqGuardType Tryd.prog.depth 52 = false := by kernel_rfl
theorem g53 : Tryd.prog.eqGuardType Tryd.prog.depth 53 = false := by kernel_rfl
theorem g54 : Tryd.prog.eqGuardType Tryd.prog.depth 54 = false := by kernel_rfl
theorem g56 : Tryd.prog.eqGuardType Tryd.prog.depth 56 = false := by kernel_rfl
theorem g57 : Tryd.prog.eqGuardType Tryd.prog.depth 57 = false := by kernel_rfl
theorem g59 : Tryd.prog.eqGuardType Tryd.prog.depth 59 = false := by kernel_rfl
theorem g60 : Tryd.prog.eqGuardType Tryd.prog.depth 60 = false := by kernel_rfl
theorem g61 : Tryd.prog.eqGuardType Tryd.prog.depth 61 = false := by kernel_rfl
theorem g62 : Tryd.prog.eqGuardType Tryd.prog.depth 62 = false := by kernel_rfl
theorem s62 : szT Tryd.prog 62 = some 1 := by kernel_rfl
theorem b62 : byT Tryd.prog 62 = some 8 := by kernel_rfl
theorem a62 : aggT Tryd.prog 62 = some false := by kernel_rfl
theorem z62 : zT Tryd.prog 62 = some (.nilp) := by kernel_rfl
theorem g63 : Tryd.prog.eqGuardType Tryd.prog.depth 63 = false := by kernel_rfl
theorem g64 : Tryd.prog.eqGuardType Tryd.prog.depth 64 = false := by kernel_rfl
theorem g65 : Tryd.prog.eqGuardType Tryd.prog.depth 65 = false := by kernel_rfl
theorem g66 : Tryd.prog.eqGuardType Tryd.prog.depth 66 = false := by kernel_rfl
theorem s67 : szT Tryd.prog 67 = some 1 := by kernel_rfl
theorem b67 : byT Tryd.prog 67 = some 8 := by kernel_rfl
theorem a67 : aggT Tryd.prog 67 = some false := by kernel_rfl
theorem z67 : zT Tryd.prog 67 = some (.int .u64 0) := by kernel_rfl
theorem g68 : Tryd.prog.eqGuardType Tryd.prog.depth 68 = false := by kernel_rfl
theorem g69 : Tryd.prog.eqGuardType Tryd.prog.depth 69 = false := by kernel_rfl
theorem g70 : Tryd.prog.eqGuardType Tryd.prog.depth 70 = false := by kernel_rfl
theorem g71 : Tryd.prog.eqGuardType Tryd.prog.depth 71 = false := by kernel_rfl
theorem g72 : Tryd.prog.eqGuardType Tryd.prog.depth 72 = false := by kernel_rfl
theorem g73 : Tryd.prog.eqGuardType Tryd.prog.depth 73 = false := by kernel_rfl
theorem g74 : Tryd.prog.eqGuardType Tryd.prog.depth 74 = false := by kernel_rfl
theorem g75 : Tryd.prog.eqGuardType Tryd.prog.depth 75 = false := by kernel_rfl
theorem s75 : szT Tryd.prog 75 = some 1 := by kernel_rfl
theorem b75 : byT Tryd.prog 75 = some 24 := by kernel_rfl
theorem a75 : aggT Tryd.prog 75 = some false := by kernel_rfl
theorem z75 : zT Tryd.prog 75 = some (.nils) := by kernel_rfl
theorem g76 : Tryd.prog.eqGuardType Tryd.prog.depth 76 = false := by kernel_rfl
theorem g77 : Tryd.prog.eqGuardType Tryd.prog.depth 77 = false := by kernel_rfl
theorem g79 : Tryd.prog.eqGuardType Tryd.prog.depth 79 = false := by kernel_rfl
theorem g80 : Tryd.prog.eqGuardType Tryd.prog.depth 80 = false := by kernel_rfl
theorem g81 : Tryd.prog.eqGuardType Tryd.prog.depth 81 = false := by kernel_rfl
theorem s81 : szT Tryd.prog 81 = some 1 := by kernel_rfl
theorem b81 : byT Tryd.prog 81 = some 8 := by kernel_rfl
theorem a81 : aggT Tryd.prog 81 = some false := by kernel_rfl
theorem z81 : zT Tryd.prog 81 = some (.nilp) := by kernel_rfl
theorem s82 : szT Tryd.prog 82 = some 2 := by kernel_rfl
theorem b82 : byT Tryd.prog 82 = some 32 := by kernel_rfl
theorem a82 : aggT Tryd.prog 82 = some true := by kernel_rfl
theorem z82 : zT Tryd.prog 82 = some (.agg [.nilp, .nils]) := by kernel_rfl
theorem s83 : szT Tryd.prog 83 = some 2 := by kernel_rfl
theorem b83 : byT Tryd.prog 83 = some 32 := by kernel_rfl
theorem a83 : aggT Tryd.prog 83 = some true := by kernel_rfl
theorem z83 : zT Tryd.prog 83 = some (.agg [.nilp, .nils]) := by kernel_rfl
theorem g84 : Tryd.prog.eqGuardType Tryd.prog.depth 84 = false := by kernel_rfl
theorem s85 : szT Tryd.prog 85 = some 1 := by kernel_rfl
theorem b85 : byT Tryd.prog 85 = some 16 := by kernel_rfl
theorem a85 : aggT Tryd.prog 85 = some false := by kernel_rfl
theorem z85 : zT Tryd.prog 85 = some (.nili) := by kernel_rfl
theorem s86 : szT Tryd.prog 86 = some 1 := by kernel_rfl
theorem b86 : byT Tryd.prog 86 = some 16 := by kernel_rfl
theorem a86 : aggT Tryd.prog 86 = some false := by kernel_rfl
theorem z86 : zT Tryd.prog 86 = some (.nili) := by kernel_rfl
theorem g88 : Tryd.prog.eqGuardType Tryd.prog.depth 88 = false := by kernel_rfl
theorem g89 : Tryd.prog.eqGuardType Tryd.prog.depth 89 = false := by kernel_rfl
theorem g90 : Tryd.prog.eqGuardType Tryd.prog.depth 90 = false := by kernel_rfl
theorem g91 : Tryd.prog.eqGuardType Tryd.prog.depth 91 = false := by kernel_rfl
theorem g92 : Tryd.prog.eqGuardType Tryd.prog.depth 92 = false := by kernel_rfl
theorem s93 : szT Tryd.prog 93 = some 256 := by kernel_rfl
theorem b93 : byT Tryd.prog 93 = some 256 := by kernel_rfl
theorem a93 : aggT Tryd.prog 93 = some true := by kernel_rfl
theorem g93 : Tryd.prog.eqGuardType Tryd.prog.depth 93 = false := by kernel_rfl
theorem h93 : Tryd.prog.stoodInHeld 93 = false := by kernel_rfl
theorem z93 : zT Tryd.prog 93 = some (.agg [.bool false, .bool false, .bool false, .bool false, .bool false, .bool false, .bool false, .bool false, .bool false, .bool false, .bool false, .bool false, .bool false, .bool false, .bool false, .bool false, .bool false, .bool false, .bool false, .bool false, .bool false, .bool false, .bool false, .bool false, .bool false, .bool false, .bool false, .bool false, .bool false, .bool false, .bool false, .bool false, .bool false, .bool false, .bool false, .bool false, .bool false, .bool false, .bool false, .bool false, .bool false, .bool false, .bool false, .bool false, .bool false, .bool false, .bool false, .bool false, .bool false, .bool false, .bool false, .bool false, .bool false, .bool false, .bool false, .bool false, .bool false, .bool false, .bool false, .bool false, .bool false, .bool false, .bool false, .bool false, .bool false, .bool false, .bool false, .bool false, .bool false, .bool false, .bool false, .bool false, .bool false, .bool false, .bool false, .bool false, .bool false, .bool false, .bool false, .bool false, .bool false, .bool false, .bool false, .bool false, .bool false, .bool false, .bool false, .bool false, .bool false, .bool false, .bool false, .bool false, .bool false, .bool false, .bool false, .bool false, .bool false, .bool false, .bool false, .bool false, .bool false, .bool false, .bool false, .bool false, .bool false, .bool false, .bool false, .bool false, .bool false, .bool false, .bool false, .bool false, .bool false, .bool false, .bool false, .bool false, .bool false, .bool false, .bool false, .bool false, .bool false, .bool false, .bool false, .bool false, .bool false, .bool false, .bool false, .bool false, .bool false, .bool false, .bool false, .bool false, .bool false, .bool false, .bool false, .bool false, .bool false, .bool false, .bool false, .bool false, .bool false, .bool false, .bool false, .bool false, .bool false, .bool false, .bool false, .bool false, .bool false, .bool false, .bool false, .bool false, .bool false, .bool false, .bool false, .bool false, .bool false, .bool false, .bool false, .bool false, .bool false, .bool false, .bool false, .bool false, .bool false, .bool false, .bool false, .bool false, .bool false, .bool false, .bool false, .bool false, .bool false, .bool false, .bool false, .bool false, .bool false, .bool false, .bool false, .bool false, .bool false, .bool false, .bool false, .bool false, .bool false, .bool false, .bool false, .bool false, .bool false, .bool false, .bool false, .bool false, .bool false, .bool false, .bool false, .bool false, .bool false, .bool false, .bool false, .bool false, .bool false, .bool false, .bool false, .bool false, .bool false, .bool false, .bool false, .bool false, .bool false, .bool false, .bool false, .bool false, .bool false, .bool false, .bool false, .bool false, .bool false, .bool false, .bool false, .bool false, .bool false, .bool false, .bool false, .bool false, .bool false, .bool false, .bool false, .bool false, .bool false, .bool false, .bool false, .bool false, .bool false, .bool false, .bool false, .bool false, .bool false, .bool false, .bool false, .bool false, .bool false, .bool false, .bool false, .bool false, .bool false, .bool false, .bool false, .bool false, .bool false, .bool false, .bool false, .bool false, .bool false, .bool false, .bool false, .bool false]) := by kernel_rfl
theorem s94 : szT Tryd.prog 94 = some 256 := by kernel_rfl
theorem b94 : byT Tryd.prog 94 = some 256 := by kernel_rfl
theorem a94 : aggT Tryd.prog 94 = some true := by kernel_rfl
theorem g94 : Tryd.prog.eqGuardType Tryd.prog.depth 94 = false := by kernel_rfl
theorem h94 : Tryd.prog.stoodInHeld 94 = false := by kernel_rfl
theorem z94 : zT Tryd.prog 94 = some (.agg [.bool false, .bool false, .bool false, .bool false, .bool false, .bool false, .bool false, .bool false, .bool false, .bool false, .bool false, .bool false, .bool false, .bool false, .bool false, .bool false, .bool false, .bool false, .bool false, .bool false, .bool false, .bool false, .bool false, .bool false, .bool false, .bool false, .bool false, .bool false, .bool false, .bool false, .bool false, .bool false, .bool false, .bool false, .bool false, .bool false, .bool false, .bool false, .bool false, .bool false, .bool false, .bool false, .bool false, .bool false, .bool false, .bool false, .bool false, .bool false, .bool false, .bool false, .bool false, .bool false, .bool false, .bool false, .bool false, .bool false, .bool false, .bool false, .bool false, .bool false, .bool false, .bool false, .bool false, .bool false, .bool false, .bool false, .bool false, .bool false, .bool false, .bool false, .bool false, .bool false, .bool false, .bool false, .bool false, .bool false, .bool false, .bool false, .bool false, .bool false, .bool false, .bool false, .bool false, .bool false, .bool false, .bool false, .bool false, .bool false, .bool false, .bool false, .bool false, .bool false, .bool false, .bool false, .bool false, .bool false, .bool false, .bool false, .bool false, .bool false, .bool false, .bool false, .bool false, .bool false, .bool false, .bool false, .bool false, .bool false, .bool false, .bool false, .bool false, .bool false, .bool false, .bool false, .bool false, .bool false, .bool false, .bool false, .bool false, .bool false, .bool false, .bool false, .bool false, .bool false, .bool false, .bool false, .bool false, .bool false, .bool false, .bool false, .bool false, .bool false, .bool false, .bool false, .bool false, .bool false, .bool false, .bool false, .bool false, .bool false, .bool false, .bool false, .bool false, .bool false, .bool false, .bool false, .bool false, .bool false, .bool false, .bool false, .bool false, .bool false, .bool false, .bool false, .bool false, .bool false, .bool false, .bool false, .bool false, .bool false, .bool false, .bool false, .bool false, .bool false, .bool false, .bool false, .bool false, .bool false, .bool false, .bool false, .bool false, .bool false, .bool false, .bool false, .bool false, .bool false, .bool false, .bool false, .bool false, .bool false, .bool false, .bool false, .bool false, .bool false, .bool false, .bool false, .bool false, .bool false, .bool false, .bool false, .bool false, .bool false, .bool false, .bool false, .bool false, .bool false, .bool false, .bool false, .bool false, .bool false, .bool false, .bool false, .bool false, .bool false, .bool false, .bool false, .bool false, .bool false, .bool false, .bool false, .bool false, .bool false, .bool false, .bool false, .bool false, .bool false, .bool false, .bool false, .bool false, .bool false, .bool false, .bool false, .bool false, .bool false, .bool false, .bool false, .bool false, .bool false, .bool false, .bool false, .bool false, .bool false, .bool false, .bool false, .bool false, .bool false, .bool false, .bool false, .bool false, .bool false, .bool false, .bool false, .bool false, .bool false, .bool false, .bool false, .bool false, .bool false, .bool false, .bool false, .bool false, .bool false, .bool false, .bool false, .bool false, .bool false]) := by kernel_rfl
theorem g96 : Tryd.prog.eqGuardType Tryd.prog.depth 96 = false := by kernel_rfl
theorem g97 : Tryd.prog.eqGuardType Tryd.prog.depth 97 = false := by kernel_rfl
theorem g98 : Tryd.prog.eqGuardType Tryd.prog.depth 98 = false := by kernel_rfl
theorem s98 : szT Tryd.prog 98 = some 1 := by kernel_rfl
theorem b98 : byT Tryd.prog 98 = some 8 := by kernel_rfl
theorem a98 : aggT Tryd.prog 98 = some false := by kernel_rfl
theorem z98 : zT Tryd.prog 98 = some (.nilp) := by kernel_rfl
theorem g99 : Tryd.prog.eqGuardType Tryd.prog.depth 99 = false := by kernel_rfl
theorem g100 : Tryd.prog.eqGuardType Tryd.prog.depth 100 = false := by kernel_rfl
theorem g102 : Tryd.prog.eqGuardType Tryd.prog.depth 102 = false := by kernel_rfl
theorem g103 : Tryd.prog.eqGuardType Tryd.prog.depth 103 = false := by kernel_rfl
theorem g104 : Tryd.prog.eqGuardType Tryd.prog.depth 104 = false := by kernel_rfl
theorem s105 : szT Tryd.prog 105 = some 64 := by kernel_rfl
theorem b105 : byT Tryd.prog 105 = some 64 := by kernel_rfl
theorem a105 : aggT Tryd.prog 105 = some true := by kernel_rfl
theorem g105 : Tryd.prog.eqGuardType Tryd.prog.depth 105 = false := by kernel_rfl
theorem h105 : Tryd.prog.stoodInHeld 105 = false := by kernel_rfl
theorem z105 : zT Tryd.prog 105 = some (.agg [.int .u8 0, .int .u8 0, .int .u8 0, .int .u8 0, .int .u8 0, .int .u8 0, .int .u8 0, .int .u8 0, .int .u8 0, .int .u8 0, .int .u8 0, .int .u8 0, .int .u8 0, .int .u8 0, .int .u8 0, .int .u8 0, .int .u8 0, .int .u8 0, .int .u8 0, .int .u8 0, .int .u8 0, .int .u8 0, .int .u8 0, .int .u8 0, .int .u8 0, .int .u8 0, .int .u8 0, .int .u8 0, .int .u8 0, .int .u8 0, .int .u8 0, .int .u8 0, .int .u8 0, .int .u8 0, .int .u8 0, .int .u8 0, .int .u8 0, .int .u8 0, .int .u8 0, .int .u8 0, .int .u8 0, .int .u8 0, .int .u8 0, .int .u8 0, .int .u8 0, .int .u8 0, .int .u8 0, .int .u8 0, .int .u8 0, .int .u8 0, .int .u8 0, .int .u8 0, .int .u8 0, .int .u8 0, .int .u8 0, .int .u8 0, .int .u8 0, .int .u8 0, .int .u8 0, .int .u8 0, .int .u8 0, .int .u8 0, .int .u8 0, .int .u8 0]) := by kernel_rfl
theorem g106 : Tryd.prog.eqGuardType Tryd.prog.depth 106 = false := by kernel_rfl
theorem s106 : szT Tryd.prog 106 = some 1 := by kernel_rfl
theorem b106 : byT Tryd.prog 106 = some 8 := by kernel_rfl
theorem a106 : aggT Tryd.prog 106 = some false := by kernel_rfl
theorem z106 : zT Tryd.prog 106 = some (.nilp) := by kernel_rfl
theorem g107 : Tryd.prog.eqGuardType Tryd.prog.depth 107 = false := by kernel_rfl
theorem s108 : szT Tryd.prog 108 = some 1 := by kernel_rfl
theorem b108 : byT Tryd.prog 108 = some 8 := by kernel_rfl
theorem a108 : aggT Tryd.prog 108 = some false := by kernel_rfl
theorem z108 : zT Tryd.prog 108 = some (.int .u64 0) := by kernel_rfl
theorem g109 : Tryd.prog.eqGuardType Tryd.prog.depth 109 = false := by kernel_rfl
theorem g111 : Tryd.prog.eqGuardType Tryd.prog.depth 111 = false := by kernel_rfl
theorem g113 : Tryd.prog.eqGuardType Tryd.prog.depth 113 = false := by kernel_rfl
theorem g114 : Tryd.prog.eqGuardType Tryd.prog.depth 114 = false := by kernel_rfl
theorem s115 : szT Tryd.prog 115 = some 1 := by kernel_rfl
theorem b115 : byT Tryd.prog 115 = some 4 := by kernel_rfl
theorem a115 : aggT Tryd.prog 115 = some false := by kernel_rfl
theorem z115 : zT Tryd.prog 115 = some (.int .u32 0) := by kernel_rfl
theorem g117 : Tryd.prog.eqGuardType Tryd.prog.depth 117 = false := by kernel_rfl
theorem g118 : Tryd.prog.eqGuardType Tryd.prog.depth 118 = false := by kernel_rfl
theorem g119 : Tryd.prog.eqGuardType Tryd.prog.depth 119 = false := by kernel_rfl
theorem s120 : szT Tryd.prog 120 = some 256 := by kernel_rfl
theorem b120 : byT Tryd.prog 120 = some 256 := by kernel_rfl
theorem a120 : aggT Tryd.prog 120 = some true := by kernel_rfl
theorem g120 : Tryd.prog.eqGuardType Tryd.prog.depth 120 = false := by kernel_rfl
theorem h120 : Tryd.prog.stoodInHeld 120 = false := by kernel_rfl
theorem z120 : zT Tryd.prog 120 = some (.agg [.int .u8 0, .int .u8 0, .int .u8 0, .int .u8 0, .int .u8 0, .int .u8 0, .int .u8 0, .int .u8 0, .int .u8 0, .int .u8 0, .int .u8 0, .int .u8 0, .int .u8 0, .int .u8 0, .int .u8 0, .int .u8 0, .int .u8 0, .int .u8 0, .int .u8 0, .int .u8 0, .int .u8 0, .int .u8 0, .int .u8 0, .int .u8 0, .int .u8 0, .int .u8 0, .int .u8 0, .int .u8 0, .int .u8 0, .int .u8 0, .int .u8 0, .int .u8 0, .int .u8 0, .int .u8 0, .int .u8 0, .int .u8 0, .int .u8 0, .int .u8 0, .int .u8 0, .int .u8 0, .int .u8 0, .int .u8 0, .int .u8 0, .int .u8 0, .int .u8 0, .int .u8 0, .int .u8 0, .int .u8 0, .int .u8 0, .int .u8 0, .int .u8 0, .int .u8 0, .int .u8 0, .int .u8 0, .int .u8 0, .int .u8 0, .int .u8 0, .int .u8 0, .int .u8 0, .int .u8 0, .int .u8 0, .int .u8 0, .int .u8 0, .int .u8 0, .int .u8 0, .int .u8 0, .int .u8 0, .int .u8 0, .int .u8 0, .int .u8 0, .int .u8 0, .int .u8 0, .int .u8 0, .int .u8 0, .int .u8 0, .int .u8 0, .int .u8 0, .int .u8 0, .int .u8 0, .int .u8 0, .int .u8 0, .int .u8 0, .int .u8 0, .int .u8 0, .int .u8 0, .int .u8 0, .int .u8 0, .int .u8 0, .int .u8 0, .int .u8 0, .int .u8 0, .int .u8 0, .int .u8 0, .int .u8 0, .int .u8 0, .int .u8 0, .int .u8 0, .int .u8 0, .int .u8 0, .int .u8 0, .int .u8 0, .int .u8 0, .int .u8 0, .int .u8 0, .int .u8 0, .int .u8 0, .int .u8 0, .int .u8 0, .int .u8 0, .int .u8 0, .int .u8 0, .int .u8 0, .int .u8 0, .int .u8 0, .int .u8 0, .int .u8 0, .int .u8 0, .int .u8 0, .int .u8 0, .int .u8 0, .int .u8 0, .int .u8 0, .int .u8 0, .int .u8 0, .int .u8 0, .int .u8 0, .int .u8 0, .int .u8 0, .int .u8 0, .int .u8 0, .int .u8 0, .int .u8 0, .int .u8 0, .int .u8 0, .int .u8 0, .int .u8 0, .int .u8 0, .int .u8 0, .int .u8 0, .int .u8 0, .int .u8 0, .int .u8 0, .int .u8 0, .int .u8 0, .int .u8 0, .int .u8 0, .int .u8 0, .int .u8 0, .int .u8 0, .int .u8 0, .int .u8 0, .int .u8 0, .int .u8 0, .int .u8 0, .int .u8 0, .int .u8 0, .int .u8 0, .int .u8 0, .int .u8 0, .int .u8 0, .int .u8 0, .int .u8 0, .int .u8 0, .int .u8 0, .int .u8 0, .int .u8 0, .int .u8 0, .int .u8 0, .int .u8 0, .int .u8 0, .int .u8 0, .int .u8 0, .int .u8 0, .int .u8 0, .int .u8 0, .int .u8 0, .int .u8 0, .int .u8 0, .int .u8 0, .int .u8 0, .int .u8 0, .int .u8 0, .int .u8 0, .int .u8 0, .int .u8 0, .int .u8 0, .int .u8 0, .int .u8 0, .int .u8 0, .int .u8 0, .int .u8 0, .int .u8 0, .int .u8 0, .int .u8 0, .int .u8 0, .int .u8 0, .int .u8 0, .int .u8 0, .int .u8 0, .int .u8 0, .int .u8 0, .int .u8 0, .int .u8 0, .int .u8 0, .int .u8 0, .int .u8 0, .int .u8 0, .int .u8 0, .int .u8 0, .int .u8 0, .int .u8 0, .int .u8 0, .int .u8 0, .int .u8 0, .int .u8 0, .int .u8 0, .int .u8 0, .int .u8 0, .int .u8 0, .int .u8 0, .int .u8 0, .int .u8 0, .int .u8 0, .int .u8 0, .int .u8 0, .int .u8 0, .int .u8 0, .int .u8 0, .int .u8 0, .int .u8 0, .int .u8 0, .int .u8 0, .int .u8 0, .int .u8 0, .int .u8 0, .int .u8 0, .int .u8 0, .int .u8 0, .int .u8 0, .int .u8 0, .int .u8 0, .int .u8 0, .int .u8 0, .int .u8 0, .int .u8 0, .int .u8 0, .int .u8 0, .int .u8 0, .int .u8 0, .int .u8 0, .int .u8 0, .int .u8 0, .int .u8 0, .int .u8 0, .int .u8 0, .int .u8 0]) := by kernel_rfl
theorem s121 : szT Tryd.prog 121 = some 2 := by kernel_rfl
theorem b121 : byT Tryd.prog 121 = some 2 := by kernel_rfl
theorem a121 : aggT Tryd.prog 121 = some true := by kernel_rfl
theorem g121 : Tryd.prog.eqGuardType Tryd.prog.depth 121 = false := by kernel_rfl
theorem h121 : Tryd.prog.stoodInHeld 121 = false := by kernel_rfl
theorem z121 : zT Tryd.prog 121 = some (.agg [.int .u8 0, .int .u8 0]) := by kernel_rfl
theorem s122 : szT Tryd.prog 122 = some 2 := by kernel_rfl
theorem b122 : byT Tryd.prog 122 = some 2 := by kernel_rfl
theorem a122 : aggT Tryd.prog 122 = some true := by kernel_rfl
theorem g122 : Tryd.prog.eqGuardType Tryd.prog.depth 122 = false := by kernel_rfl
theorem h122 : Tryd.prog.stoodInHeld 122 = false := by kernel_rfl
theorem z122 : zT Tryd.prog 122 = some (.agg [.int .u8 0, .int .u8 0]) := by kernel_rfl
theorem s123 : szT Tryd.prog 123 = some 32 := by kernel_rfl
theorem b123 : byT Tryd.prog 123 = some 32 := by kernel_rfl
theorem a123 : aggT Tryd.prog 123 = some true := by kernel_rfl
theorem g123 : Tryd.prog.eqGuardType Tryd.prog.depth 123 = false := by kernel_rfl
theorem h123 : Tryd.prog.stoodInHeld 123 = false := by kernel_rfl
theorem z123 : zT Tryd.prog 123 = some (.agg [.int .u8 0, .int .u8 0, .int .u8 0, .int .u8 0, .int .u8 0, .int .u8 0, .int .u8 0, .int .u8 0, .int .u8 0, .int .u8 0, .int .u8 0, .int .u8 0, .int .u8 0, .int .u8 0, .int .u8 0, .int .u8 0, .int .u8 0, .int .u8 0, .int .u8 0, .int .u8 0, .int .u8 0, .int .u8 0, .int .u8 0, .int .u8 0, .int .u8 0, .int .u8 0, .int .u8 0, .int .u8 0, .int .u8 0, .int .u8 0, .int .u8 0, .int .u8 0]) := by kernel_rfl
theorem s124 : szT Tryd.prog 124 = some 4 := by kernel_rfl
theorem b124 : byT Tryd.prog 124 = some 40 := by kernel_rfl
theorem a124 : aggT Tryd.prog 124 = some true := by kernel_rfl
theorem z124 : zT Tryd.prog 124 = some (.agg [.nilp, .nilp, .nilp, .str []]) := by kernel_rfl
theorem s125 : szT Tryd.prog 125 = some 4 := by kernel_rfl
theorem b125 : byT Tryd.prog 125 = some 40 := by kernel_rfl
theorem a125 : aggT Tryd.prog 125 = some true := by kernel_rfl
theorem z125 : zT Tryd.prog 125 = some (.agg [.nilp, .nilp, .nilp, .str []]) := by kernel_rfl
theorem s126 : szT Tryd.prog 126 = some 0 := by kernel_rfl
theorem b126 : byT Tryd.prog 126 = some 0 := by kernel_rfl
theorem a126 : aggT Tryd.prog 126 = some true := by kernel_rfl
theorem z126 : zT Tryd.prog 126 = some (.agg []) := by kernel_rfl
theorem s127 : szT Tryd.prog 127 = some 0 := by kernel_rfl
theorem b127 : byT Tryd.prog 127 = some 0 := by kernel_rfl
theorem a127 : aggT Tryd.prog 127 = some true := by kernel_rfl
theorem z127 : zT Tryd.prog 127 = some (.agg []) := by kernel_rfl
theorem s128 : szT Tryd.prog 128 = some 0 := by kernel_rfl
theorem b128 : byT Tryd.prog 128 = some 0 := by kernel_rfl
theorem a128 : aggT Tryd.prog 128 = some true := by kernel_rfl
theorem z128 : zT Tryd.prog 128 = some (.agg []) := by kernel_rfl
theorem g129 : Tryd.prog.eqGuardType Tryd.prog.depth 129 = false := by kernel_rfl
theorem s130 : szT Tryd.prog 130 = some 1 := by kernel_rfl
theorem b130 : byT Tryd.prog 130 = some 1 := by kernel_rfl
theorem a130 : aggT Tryd.prog 130 = some false := by kernel_rfl
theorem z130 : zT Tryd.prog 130 = some (.int .u8 0) := by kernel_rfl
theorem s131 : szT Tryd.prog 131 = some 1 := by kernel_rfl
theorem b131 : byT Tryd.prog 131 = some 1 := by kernel_rfl
theorem a131 : aggT Tryd.prog 131 = some false := by kernel_rfl
theorem z131 : zT Tryd.prog 131 = some (.int .u8 0) := by kernel_rfl
theorem g132 : Tryd.prog.eqGuardType Tryd.prog.depth 132 = false := by kernel_rfl
theorem s133 : szT Tryd.prog 133 = some 1 := by kernel_rfl
theorem b133 : byT Tryd.prog 133 = some 4 := by kernel_rfl
theorem a133 : aggT Tryd.prog 133 = some false := by kernel_rfl
theorem z133 : zT Tryd.prog 133 = some (.int .i32 0) := by kernel_rfl
theorem s134 : szT Tryd.prog 134 = some 1 := by kernel_rfl
theorem b134 : byT Tryd.prog 134 = some 4 := by kernel_rfl
theorem a134 : aggT Tryd.prog 134 = some false := by kernel_rfl
theorem z134 : zT Tryd.prog 134 = some (.int .i32 0) := by kernel_rfl
theorem s135 : szT Tryd.prog 135 = some 11 := by kernel_rfl
theorem b135 : byT Tryd.prog 135 = some 48 := by kernel_rfl
theorem a135 : aggT Tryd.prog 135 = some true := by kernel_rfl
theorem z135 : zT Tryd.prog 135 = some (.agg [.int .u64 0, .int .u64 0, .int .u32 0, .int .u8 0, .int .u8 0, .int .u8 0, .int .u8 0, .nilf, .nilp, .int .i32 0, .int .i32 0]) := by kernel_rfl
theorem s136 : szT Tryd.prog 136 = some 11 := by kernel_rfl
theorem b136 : byT Tryd.prog 136 = some 48 := by kernel_rfl
theorem a136 : aggT Tryd.prog 136 = some true := by kernel_rfl
theorem z136 : zT Tryd.prog 136 = some (.agg [.int .u64 0, .int .u64 0, .int .u32 0, .int .u8 0, .int .u8 0, .int .u8 0, .int .u8 0, .nilf, .nilp, .int .i32 0, .int .i32 0]) := by kernel_rfl
attribute [go_sem] g1 s2 b2 a2 z2 s3 b3 a3 z3 s4 b4 a4 z4 s5 b5 a5 z5 s6 b6 a6 z6 s7 b7 a7 g7 h7 z7 s8 b8 a8 g8 h8 z8 s9 b9 a9 z9 s10 b10 a10 z10 s11 b11 a11 z11 s12 b12 a12 z12 s13 b13 a13 z13 s14 b14 a14 z14 g15 s15 b15 a15 z15 g16 s16 b16 a16 z16 g17 s17 b17 a17 z17 s18 b18 a18 z18 s19 b19 a19 z19 s20 b20 a20 z20 s21 b21 a21 z21 s22 b22 a22 g22 h22 z22 s23 b23 a23 g23 h23 z23 s24 b24 a24 g24 h24 z24 s25 b25 a25 g25 h25 z25 s26 b26 a26 z26 g28 g29 g30 s31 b31 a31 g31 h31 z31 s32 b32 a32 g32 h32 z32 g34 g35 g36 g37 g38 g39 s39 b39 a39 z39 g40 g41 s41 b41 a41 z41 s42 b42 a42 z42 s43 b43 a43 z43 s44 b44 a44 z44 g45 g46 s46 b46 a46 z46 g48 g49 g50 g51 s51 b51 a51 z51 g52 g53 g54 g56 g57 g59 g60 g61 g62 s62 b62 a62 z62 g63 g64 g65 g66 s67 b67 a67 z67 g68 g69 g70 g71 g72 g73 g74 g75 s75 b75 a75 z75 g76 g77 g79 g80 g81 s81 b81 a81 z81 s82 b82 a82 z82 s83 b83 a83 z83 g84 s85 b85 a85 z85 s86 b86 a86 z86 g88 g89 g90 g91 g92 s93 b93 a93 g93 h93 z93 s94 b94 a94 g94 h94 z94 g96 g97 g98 s98 b98 a98 z98 g99 g100 g102 g103 g104 s105 b105 a105 g105 h105 z105 g106 s106 b106 a106 z106 g107 s108 b108 a108 z108 g109 g111 g113 g114 s115 b115 a115 z115 g117 g118 g119 s120 b120 a120 g120 h120 z120 s121 b121 a121 g121 h121 z121 s122 b122 a122 g122 h122 z122 s123 b123 a123 g123 h123 z123 s124 b124 a124 z124 s125 b125 a125 z125 s126 b126 a126 z126 s127 b127 a127 z127 s128 b128 a128 z128 g129 s130 b130 a130 z130 s131 b131 a131 z131 g132 s133 b133 a133 z133 s134 b134 a134 z134 s135 b135 a135 z135 s136 b136 a136 z136 Tryd.underlying1 Tryd.underlying2 Tryd.underlying3 Tryd.underlying4 Tryd.underlying5 Tryd.underlying6 Tryd.underlying7 Tryd.underlying8 Tryd.underlying9 Tryd.underlying10 Tryd.underlying11 Tryd.underlying12 Tryd.underlying13 Tryd.underlying14 Tryd.underlying15 Tryd.underlying16 Tryd.underlying17 Tryd.underlying18 Tryd.underlying19 Tryd.underlying20 Tryd.underlying21 Tryd.underlying22 Tryd.underlying23 Tryd.underlying24 Tryd.underlying25 Tryd.underlying26 Tryd.underlying28 Tryd.underlying29 Tryd.underlying30 Tryd.underlying31 Tryd.underlying32 Tryd.underlying34 Tryd.underlying35 Tryd.underlying36 Tryd.underlying37 Tryd.underlying38 Tryd.underlying39 Tryd.underlying40 Tryd.underlying41 Tryd.underlying42 Tryd.underlying43 Tryd.underlying44 Tryd.underlying45 Tryd.underlying46 Tryd.underlying48 Tryd.underlying49 Tryd.underlying50 Tryd.underlying51 Tryd.underlying52 Tryd.underlying53 Tryd.underlying54 Tryd.underlying56 Tryd.underlying57 Tryd.underlying59 Tryd.underlying60 Tryd.underlying61 Tryd.underlying62 Tryd.underlying63 Tryd.underlying64 Tryd.underlying65 Tryd.underlying66 Tryd.underlying67 Tryd.underlying68 Tryd.underlying69 Tryd.underlying70 Tryd.underlying71 Tryd.underlying72 Tryd.underlying73 Tryd.underlying74 Tryd.underlying75 Tryd.underlying76 Tryd.underlying77 Tryd.underlying79 Tryd.underlying80 Tryd.underlying81 Tryd.underlying82 Tryd.underlying83 Tryd.underlying84 Tryd.underlying85 Tryd.underlying86 Tryd.underlying88 Tryd.underlying89 Tryd.underlying90 Tryd.underlying91 Tryd.underlying92 Tryd.underlying93 Tryd.underlying94 Tryd.underlying96 Tryd.underlying97 Tryd.underlying98 Tryd.underlying99 Tryd.underlying100 Tryd.underlying102 Tryd.underlying103 Tryd.underlying104 Tryd.underlying105 Tryd.underlying106 Tryd.underlying107 Tryd.underlying108 Tryd.underlying109 Tryd.underlying111 Tryd.underlying113 Tryd.underlying114 Tryd.underlying115 Tryd.underlying117 Tryd.underlying118 Tryd.underlying119 Tryd.underlying120 Tryd.underlying121 Tryd.underlying122 Tryd.underlying123 Tryd.underlying124 Tryd.underlying125 Tryd.underlying126 Tryd.underlying127 Tryd.underlying128 Tryd.underlying129 Tryd.underlying130 Tryd.underlying131 Tryd.underlying132 Tryd.underlying133 Tryd.underlying134 Tryd.underlying135 Tryd.underlying136
end Go.Proofs.Tryd.Ty
