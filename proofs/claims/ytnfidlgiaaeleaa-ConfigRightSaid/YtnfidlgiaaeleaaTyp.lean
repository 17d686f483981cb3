/- Facts about the seat's types. No condition. -/
import Derived.Test.YtnfidlgiaaeleaaAbsT
import Derived.Test.YtnfidlgiaaeleaaProg
import Derived.KernelRfl
set_option linter.unusedVariables false
namespace Go.Proofs.Try.Ty
open Go Go.Abs Go.Proofs

theorem mixed : Try.prog.follows .mixedOrders = true := by kernel_rfl
theorem g1 : Try.prog.eqGuardType Try.prog.depth 1 = false := by kernel_rfl
theorem s2 : szT Try.prog 2 = some 1 := by kernel_rfl
theorem b2 : byT Try.prog 2 = some 8 := by kernel_rfl
theorem a2 : aggT Try.prog 2 = some false := by kernel_rfl
theorem z2 : zT Try.prog 2 = some (.int .i64 0) := by kernel_rfl
theorem s3 : szT Try.prog 3 = some 1 := by kernel_rfl
theorem b3 : byT Try.prog 3 = some 8 := by kernel_rfl
theorem a3 : aggT Try.prog 3 = some false := by kernel_rfl
theorem z3 : zT Try.prog 3 = some (.int .i64 0) := by kernel_rfl
theorem s4 : szT Try.prog 4 = some 1 := by kernel_rfl
theorem b4 : byT Try.prog 4 = some 1 := by kernel_rfl
theorem a4 : aggT Try.prog 4 = some false := by kernel_rfl
theorem z4 : zT Try.prog 4 = some (.bool false) := by kernel_rfl
theorem s5 : szT Try.prog 5 = some 1 := by kernel_rfl
theorem b5 : byT Try.prog 5 = some 1 := by kernel_rfl
theorem a5 : aggT Try.prog 5 = some false := by kernel_rfl
theorem z5 : zT Try.prog 5 = some (.int .u8 0) := by kernel_rfl
theorem s6 : szT Try.prog 6 = some 1 := by kernel_rfl
theorem b6 : byT Try.prog 6 = some 1 := by kernel_rfl
theorem a6 : aggT Try.prog 6 = some false := by kernel_rfl
theorem z6 : zT Try.prog 6 = some (.int .u8 0) := by kernel_rfl
theorem s7 : szT Try.prog 7 = some 4 := by kernel_rfl
theorem b7 : byT Try.prog 7 = some 24 := by kernel_rfl
theorem a7 : aggT Try.prog 7 = some true := by kernel_rfl
theorem g7 : Try.prog.eqGuardType Try.prog.depth 7 = false := by kernel_rfl
theorem h7 : Try.prog.stoodInHeld 7 = false := by kernel_rfl
theorem z7 : zT Try.prog 7 = some (.agg [.int .i64 0, .int .i64 0, .bool false, .int .u8 0]) := by kernel_rfl
theorem s8 : szT Try.prog 8 = some 4 := by kernel_rfl
theorem b8 : byT Try.prog 8 = some 24 := by kernel_rfl
theorem a8 : aggT Try.prog 8 = some true := by kernel_rfl
theorem g8 : Try.prog.eqGuardType Try.prog.depth 8 = false := by kernel_rfl
theorem h8 : Try.prog.stoodInHeld 8 = false := by kernel_rfl
theorem z8 : zT Try.prog 8 = some (.agg [.int .i64 0, .int .i64 0, .bool false, .int .u8 0]) := by kernel_rfl
theorem s9 : szT Try.prog 9 = some 1 := by kernel_rfl
theorem b9 : byT Try.prog 9 = some 16 := by kernel_rfl
theorem a9 : aggT Try.prog 9 = some false := by kernel_rfl
theorem z9 : zT Try.prog 9 = some (.str []) := by kernel_rfl
theorem s10 : szT Try.prog 10 = some 1 := by kernel_rfl
theorem b10 : byT Try.prog 10 = some 16 := by kernel_rfl
theorem a10 : aggT Try.prog 10 = some false := by kernel_rfl
theorem z10 : zT Try.prog 10 = some (.str []) := by kernel_rfl
theorem s11 : szT Try.prog 11 = some 1 := by kernel_rfl
theorem b11 : byT Try.prog 11 = some 16 := by kernel_rfl
theorem a11 : aggT Try.prog 11 = some false := by kernel_rfl
theorem z11 : zT Try.prog 11 = some (.str []) := by kernel_rfl
theorem s12 : szT Try.prog 12 = some 1 := by kernel_rfl
theorem b12 : byT Try.prog 12 = some 8 := by kernel_rfl
theorem a12 : aggT Try.prog 12 = some false := by kernel_rfl
theorem z12 : zT Try.prog 12 = some (.int .u64 0) := by kernel_rfl
theorem s13 : szT Try.prog 13 = some 2 := by kernel_rfl
theorem b13 : byT Try.prog 13 = some 24 := by kernel_rfl
theorem a13 : aggT Try.prog 13 = some true := by kernel_rfl
theorem z13 : zT Try.prog 13 = some (.agg [.str [], .int .u64 0]) := by kernel_rfl
theorem s14 : szT Try.prog 14 = some 2 := by kernel_rfl
theorem b14 : byT Try.prog 14 = some 24 := by kernel_rfl
theorem a14 : aggT Try.prog 14 = some true := by kernel_rfl
theorem z14 : zT Try.prog 14 = some (.agg [.str [], .int .u64 0]) := by kernel_rfl
theorem g15 : Try.prog.eqGuardType Try.prog.depth 15 = false := by kernel_rfl
theorem s15 : szT Try.prog 15 = some 1 := by kernel_rfl
theorem b15 : byT Try.prog 15 = some 8 := by kernel_rfl
theorem a15 : aggT Try.prog 15 = some false := by kernel_rfl
theorem z15 : zT Try.prog 15 = some (.nilp) := by kernel_rfl
theorem g16 : Try.prog.eqGuardType Try.prog.depth 16 = false := by kernel_rfl
theorem s16 : szT Try.prog 16 = some 1 := by kernel_rfl
theorem b16 : byT Try.prog 16 = some 8 := by kernel_rfl
theorem a16 : aggT Try.prog 16 = some false := by kernel_rfl
theorem z16 : zT Try.prog 16 = some (.nilp) := by kernel_rfl
theorem g17 : Try.prog.eqGuardType Try.prog.depth 17 = false := by kernel_rfl
theorem s17 : szT Try.prog 17 = some 1 := by kernel_rfl
theorem b17 : byT Try.prog 17 = some 8 := by kernel_rfl
theorem a17 : aggT Try.prog 17 = some false := by kernel_rfl
theorem z17 : zT Try.prog 17 = some (.nilp) := by kernel_rfl
theorem s18 : szT Try.prog 18 = some 1 := by kernel_rfl
theorem b18 : byT Try.prog 18 = some 8 := by kernel_rfl
theorem a18 : aggT Try.prog 18 = some true := by kernel_rfl
theorem z18 : zT Try.prog 18 = some (.agg [.nilp]) := by kernel_rfl
theorem s19 : szT Try.prog 19 = some 1 := by kernel_rfl
theorem b19 : byT Try.prog 19 = some 8 := by kernel_rfl
theorem a19 : aggT Try.prog 19 = some true := by kernel_rfl
theorem z19 : zT Try.prog 19 = some (.agg [.nilp]) := by kernel_rfl
theorem s20 : szT Try.prog 20 = some 1 := by kernel_rfl
theorem b20 : byT Try.prog 20 = some 16 := by kernel_rfl
theorem a20 : aggT Try.prog 20 = some false := by kernel_rfl
theorem z20 : zT Try.prog 20 = some (.nili) := by kernel_rfl
theorem s21 : szT Try.prog 21 = some 1 := by kernel_rfl
theorem b21 : byT Try.prog 21 = some 4 := by kernel_rfl
theorem a21 : aggT Try.prog 21 = some false := by kernel_rfl
theorem z21 : zT Try.prog 21 = some (.int .i32 0) := by kernel_rfl
theorem s22 : szT Try.prog 22 = some 5 := by kernel_rfl
theorem b22 : byT Try.prog 22 = some 40 := by kernel_rfl
theorem a22 : aggT Try.prog 22 = some true := by kernel_rfl
theorem g22 : Try.prog.eqGuardType Try.prog.depth 22 = false := by kernel_rfl
theorem h22 : Try.prog.stoodInHeld 22 = false := by kernel_rfl
theorem z22 : zT Try.prog 22 = some (.agg [.int .i64 0, .int .i64 0, .int .i64 0, .int .i64 0, .int .i64 0]) := by kernel_rfl
theorem s23 : szT Try.prog 23 = some 5 := by kernel_rfl
theorem b23 : byT Try.prog 23 = some 40 := by kernel_rfl
theorem a23 : aggT Try.prog 23 = some true := by kernel_rfl
theorem g23 : Try.prog.eqGuardType Try.prog.depth 23 = false := by kernel_rfl
theorem h23 : Try.prog.stoodInHeld 23 = false := by kernel_rfl
theorem z23 : zT Try.prog 23 = some (.agg [.int .i64 0, .int .i64 0, .int .i64 0, .int .i64 0, .int .i64 0]) := by kernel_rfl
theorem s24 : szT Try.prog 24 = some 18 := by kernel_rfl
theorem b24 : byT Try.prog 24 = some 160 := by kernel_rfl
theorem a24 : aggT Try.prog 24 = some true := by kernel_rfl
theorem g24 : Try.prog.eqGuardType Try.prog.depth 24 = false := by kernel_rfl
theorem h24 : Try.prog.stoodInHeld 24 = false := by kernel_rfl
theorem z24 : zT Try.prog 24 = some (.agg [.str [], .str [], .int .i64 0, .int .i64 0, .int .i64 0, .int .i64 0, .int .i64 0, .int .i64 0, .int .i64 0, .int .i64 0, .int .i64 0, .int .i64 0, .int .i64 0, .int .i64 0, .int .i64 0, .int .i64 0, .int .i64 0, .int .i64 0]) := by kernel_rfl
theorem s25 : szT Try.prog 25 = some 18 := by kernel_rfl
theorem b25 : byT Try.prog 25 = some 160 := by kernel_rfl
theorem a25 : aggT Try.prog 25 = some true := by kernel_rfl
theorem g25 : Try.prog.eqGuardType Try.prog.depth 25 = false := by kernel_rfl
theorem h25 : Try.prog.stoodInHeld 25 = false := by kernel_rfl
theorem z25 : zT Try.prog 25 = some (.agg [.str [], .str [], .int .i64 0, .int .i64 0, .int .i64 0, .int .i64 0, .int .i64 0, .int .i64 0, .int .i64 0, .int .i64 0, .int .i64 0, .int .i64 0, .int .i64 0, .int .i64 0, .int .i64 0, .int .i64 0, .int .i64 0, .int .i64 0]) := by kernel_rfl
theorem g26 : Try.prog.eqGuardType Try.prog.depth 26 = false := by kernel_rfl
theorem s27 : szT Try.prog 27 = some 1 := by kernel_rfl
theorem b27 : byT Try.prog 27 = some 8 := by kernel_rfl
theorem a27 : aggT Try.prog 27 = some false := by kernel_rfl
theorem z27 : zT Try.prog 27 = some (.int .i64 0) := by kernel_rfl
theorem g28 : Try.prog.eqGuardType Try.prog.depth 28 = false := by kernel_rfl
theorem g29 : Try.prog.eqGuardType Try.prog.depth 29 = false := by kernel_rfl
theorem g30 : Try.prog.eqGuardType Try.prog.depth 30 = false := by kernel_rfl
theorem g32 : Try.prog.eqGuardType Try.prog.depth 32 = false := by kernel_rfl
theorem g33 : Try.prog.eqGuardType Try.prog.depth 33 = false := by kernel_rfl
theorem g34 : Try.prog.eqGuardType Try.prog.depth 34 = false := by kernel_rfl
theorem g35 : Try.prog.eqGuardType Try.prog.depth 35 = false := by kernel_rfl
theorem g36 : Try.prog.eqGuardType Try.prog.depth 36 = false := by kernel_rfl
theorem s37 : szT Try.prog 37 = some 6 := by kernel_rfl
theorem b37 : byT Try.prog 37 = some 48 := by kernel_rfl
theorem a37 : aggT Try.prog 37 = some true := by kernel_rfl
theorem g37 : Try.prog.eqGuardType Try.prog.depth 37 = false := by kernel_rfl
theorem h37 : Try.prog.stoodInHeld 37 = false := by kernel_rfl
theorem z37 : zT Try.prog 37 = some (.agg [.int .i64 0, .int .i64 0, .int .i64 0, .int .i64 0, .int .i64 0, .int .i64 0]) := by kernel_rfl
theorem s38 : szT Try.prog 38 = some 6 := by kernel_rfl
theorem b38 : byT Try.prog 38 = some 48 := by kernel_rfl
theorem a38 : aggT Try.prog 38 = some true := by kernel_rfl
theorem g38 : Try.prog.eqGuardType Try.prog.depth 38 = false := by kernel_rfl
theorem h38 : Try.prog.stoodInHeld 38 = false := by kernel_rfl
theorem z38 : zT Try.prog 38 = some (.agg [.int .i64 0, .int .i64 0, .int .i64 0, .int .i64 0, .int .i64 0, .int .i64 0]) := by kernel_rfl
theorem g40 : Try.prog.eqGuardType Try.prog.depth 40 = false := by kernel_rfl
theorem g41 : Try.prog.eqGuardType Try.prog.depth 41 = false := by kernel_rfl
theorem g42 : Try.prog.eqGuardType Try.prog.depth 42 = false := by kernel_rfl
theorem g43 : Try.prog.eqGuardType Try.prog.depth 43 = false := by kernel_rfl
theorem s43 : szT Try.prog 43 = some 1 := by kernel_rfl
theorem b43 : byT Try.prog 43 = some 24 := by kernel_rfl
theorem a43 : aggT Try.prog 43 = some false := by kernel_rfl
theorem z43 : zT Try.prog 43 = some (.nils) := by kernel_rfl
theorem g44 : Try.prog.eqGuardType Try.prog.depth 44 = false := by kernel_rfl
theorem g45 : Try.prog.eqGuardType Try.prog.depth 45 = false := by kernel_rfl
theorem g46 : Try.prog.eqGuardType Try.prog.depth 46 = false := by kernel_rfl
theorem g47 : Try.prog.eqGuardType Try.prog.depth 47 = false := by kernel_rfl
theorem g48 : Try.prog.eqGuardType Try.prog.depth 48 = false := by kernel_rfl
theorem s49 : szT Try.prog 49 = some 2 := by kernel_rfl
theorem b49 : byT Try.prog 49 = some 32 := by kernel_rfl
theorem a49 : aggT Try.prog 49 = some true := by kernel_rfl
theorem g49 : Try.prog.eqGuardType Try.prog.depth 49 = false := by kernel_rfl
theorem h49 : Try.prog.stoodInHeld 49 = false := by kernel_rfl
theorem z49 : zT Try.prog 49 = some (.agg [.str [], .str []]) := by kernel_rfl
theorem s50 : szT Try.prog 50 = some 2 := by kernel_rfl
theorem b50 : byT Try.prog 50 = some 32 := by kernel_rfl
theorem a50 : aggT Try.prog 50 = some true := by kernel_rfl
theorem g50 : Try.prog.eqGuardType Try.prog.depth 50 = false := by kernel_rfl
theorem h50 : Try.prog.stoodInHeld 50 = false := by kernel_rfl
theorem z50 : zT Try.prog 50 = some (.agg [.str [], .str []]) := by kernel_rfl
theorem g51 : Try.prog.eqGuardType Try.prog.depth 51 = false := by kernel_rfl
theorem g52 : Try.prog.eqGuardType Try.prog.depth 52 = false := by kernel_rfl
theorem g54 : Try.prog.eqGuardType Try.prog.depth 54 = false := by kernel_rfl
theorem g55 : Try.prog.eqGuardType Try.prog.depth 55 = false := by kernel_rfl
theorem s55 : szT Try.prog 55 = some 1 := by kernel_rfl
theorem b55 : byT Try.prog 55 = some 8 := by kernel_rfl
theorem a55 : aggT Try.prog 55 = some false := by kernel_rfl
theorem z55 : zT Try.prog 55 = some (.nilp) := by kernel_rfl
theorem s56 : szT Try.prog 56 = some 3 := by kernel_rfl
theorem b56 : byT Try.prog 56 = some 24 := by kernel_rfl
theorem a56 : aggT Try.prog 56 = some true := by kernel_rfl
theorem z56 : zT Try.prog 56 = some (.agg [.nilp, .int .i64 0, .int .i64 0]) := by kernel_rfl
theorem s57 : szT Try.prog 57 = some 3 := by kernel_rfl
theorem b57 : byT Try.prog 57 = some 24 := by kernel_rfl
theorem a57 : aggT Try.prog 57 = some true := by kernel_rfl
theorem z57 : zT Try.prog 57 = some (.agg [.nilp, .int .i64 0, .int .i64 0]) := by kernel_rfl
theorem s58 : szT Try.prog 58 = some 48 := by kernel_rfl
theorem b58 : byT Try.prog 58 = some 384 := by kernel_rfl
theorem a58 : aggT Try.prog 58 = some true := by kernel_rfl
theorem z58 : zT Try.prog 58 = some (.agg [.nilp, .int .i64 0, .int .i64 0, .nilp, .int .i64 0, .int .i64 0, .nilp, .int .i64 0, .int .i64 0, .nilp, .int .i64 0, .int .i64 0, .nilp, .int .i64 0, .int .i64 0, .nilp, .int .i64 0, .int .i64 0, .nilp, .int .i64 0, .int .i64 0, .nilp, .int .i64 0, .int .i64 0, .nilp, .int .i64 0, .int .i64 0, .nilp, .int .i64 0, .int .i64 0, .nilp, .int .i64 0, .int .i64 0, .nilp, .int .i64 0, .int .i64 0, .nilp, .int .i64 0, .int .i64 0, .nilp, .int .i64 0, .int .i64 0, .nilp, .int .i64 0, .int .i64 0, .nilp, .int .i64 0, .int .i64 0]) := by kernel_rfl
theorem g59 : Try.prog.eqGuardType Try.prog.depth 59 = false := by kernel_rfl
theorem g60 : Try.prog.eqGuardType Try.prog.depth 60 = false := by kernel_rfl
theorem s60 : szT Try.prog 60 = some 1 := by kernel_rfl
theorem b60 : byT Try.prog 60 = some 8 := by kernel_rfl
theorem a60 : aggT Try.prog 60 = some false := by kernel_rfl
theorem z60 : zT Try.prog 60 = some (.nilp) := by kernel_rfl
theorem g61 : Try.prog.eqGuardType Try.prog.depth 61 = false := by kernel_rfl
theorem s61 : szT Try.prog 61 = some 1 := by kernel_rfl
theorem b61 : byT Try.prog 61 = some 24 := by kernel_rfl
theorem a61 : aggT Try.prog 61 = some false := by kernel_rfl
theorem z61 : zT Try.prog 61 = some (.nils) := by kernel_rfl
theorem g62 : Try.prog.eqGuardType Try.prog.depth 62 = false := by kernel_rfl
theorem g63 : Try.prog.eqGuardType Try.prog.depth 63 = false := by kernel_rfl
theorem g64 : Try.prog.eqGuardType Try.prog.depth 64 = false := by kernel_rfl
theorem s64 : szT Try.prog 64 = some 1 := by kernel_rfl
theorem b64 : byT Try.prog 64 = some 24 := by kernel_rfl
theorem a64 : aggT Try.prog 64 = some false := by kernel_rfl
theorem z64 : zT Try.prog 64 = some (.nils) := by kernel_rfl
theorem g65 : Try.prog.eqGuardType Try.prog.depth 65 = false := by kernel_rfl
theorem s66 : szT Try.prog 66 = some 3 := by kernel_rfl
theorem b66 : byT Try.prog 66 = some 48 := by kernel_rfl
theorem a66 : aggT Try.prog 66 = some true := by kernel_rfl
theorem g66 : Try.prog.eqGuardType Try.prog.depth 66 = false := by kernel_rfl
theorem h66 : Try.prog.stoodInHeld 66 = false := by kernel_rfl
theorem z66 : zT Try.prog 66 = some (.agg [.str [], .str [], .str []]) := by kernel_rfl
theorem g67 : Try.prog.eqGuardType Try.prog.depth 67 = false := by kernel_rfl
theorem g68 : Try.prog.eqGuardType Try.prog.depth 68 = false := by kernel_rfl
theorem s68 : szT Try.prog 68 = some 1 := by kernel_rfl
theorem b68 : byT Try.prog 68 = some 8 := by kernel_rfl
theorem a68 : aggT Try.prog 68 = some false := by kernel_rfl
theorem z68 : zT Try.prog 68 = some (.nilp) := by kernel_rfl
theorem g69 : Try.prog.eqGuardType Try.prog.depth 69 = false := by kernel_rfl
theorem s70 : szT Try.prog 70 = some 10 := by kernel_rfl
theorem b70 : byT Try.prog 70 = some 80 := by kernel_rfl
theorem a70 : aggT Try.prog 70 = some true := by kernel_rfl
theorem g70 : Try.prog.eqGuardType Try.prog.depth 70 = false := by kernel_rfl
theorem h70 : Try.prog.stoodInHeld 70 = false := by kernel_rfl
theorem z70 : zT Try.prog 70 = some (.agg [.str [], .int .i64 0, .int .i64 0, .int .i64 0, .int .i64 0, .int .i64 0, .int .i64 0, .int .i64 0, .bool false, .bool false]) := by kernel_rfl
theorem s71 : szT Try.prog 71 = some 10 := by kernel_rfl
theorem b71 : byT Try.prog 71 = some 80 := by kernel_rfl
theorem a71 : aggT Try.prog 71 = some true := by kernel_rfl
theorem g71 : Try.prog.eqGuardType Try.prog.depth 71 = false := by kernel_rfl
theorem h71 : Try.prog.stoodInHeld 71 = false := by kernel_rfl
theorem z71 : zT Try.prog 71 = some (.agg [.str [], .int .i64 0, .int .i64 0, .int .i64 0, .int .i64 0, .int .i64 0, .int .i64 0, .int .i64 0, .bool false, .bool false]) := by kernel_rfl
theorem g72 : Try.prog.eqGuardType Try.prog.depth 72 = false := by kernel_rfl
theorem g74 : Try.prog.eqGuardType Try.prog.depth 74 = false := by kernel_rfl
theorem g75 : Try.prog.eqGuardType Try.prog.depth 75 = false := by kernel_rfl
theorem g76 : Try.prog.eqGuardType Try.prog.depth 76 = false := by kernel_rfl
theorem g78 : Try.prog.eqGuardType Try.prog.depth 78 = false := by kernel_rfl
theorem g79 : Try.prog.eqGuardType Try.prog.depth 79 = false := by kernel_rfl
theorem s80 : szT Try.prog 80 = some 7 := by kernel_rfl
theorem b80 : byT Try.prog 80 = some 112 := by kernel_rfl
theorem a80 : aggT Try.prog 80 = some true := by kernel_rfl
theorem g80 : Try.prog.eqGuardType Try.prog.depth 80 = false := by kernel_rfl
theorem h80 : Try.prog.stoodInHeld 80 = false := by kernel_rfl
theorem z80 : zT Try.prog 80 = some (.agg [.str [], .str [], .str [], .str [], .str [], .str [], .str []]) := by kernel_rfl
theorem g81 : Try.prog.eqGuardType Try.prog.depth 81 = false := by kernel_rfl
theorem g82 : Try.prog.eqGuardType Try.prog.depth 82 = false := by kernel_rfl
theorem s83 : szT Try.prog 83 = some 12 := by kernel_rfl
theorem b83 : byT Try.prog 83 = some 192 := by kernel_rfl
theorem a83 : aggT Try.prog 83 = some true := by kernel_rfl
theorem g83 : Try.prog.eqGuardType Try.prog.depth 83 = false := by kernel_rfl
theorem h83 : Try.prog.stoodInHeld 83 = false := by kernel_rfl
theorem z83 : zT Try.prog 83 = some (.agg [.str [], .str [], .str [], .str [], .str [], .str [], .str [], .str [], .str [], .str [], .str [], .str []]) := by kernel_rfl
theorem g84 : Try.prog.eqGuardType Try.prog.depth 84 = false := by kernel_rfl
theorem g85 : Try.prog.eqGuardType Try.prog.depth 85 = false := by kernel_rfl
theorem g86 : Try.prog.eqGuardType Try.prog.depth 86 = false := by kernel_rfl
theorem g87 : Try.prog.eqGuardType Try.prog.depth 87 = false := by kernel_rfl
theorem s88 : szT Try.prog 88 = some 5 := by kernel_rfl
theorem b88 : byT Try.prog 88 = some 80 := by kernel_rfl
theorem a88 : aggT Try.prog 88 = some true := by kernel_rfl
theorem g88 : Try.prog.eqGuardType Try.prog.depth 88 = false := by kernel_rfl
theorem h88 : Try.prog.stoodInHeld 88 = false := by kernel_rfl
theorem z88 : zT Try.prog 88 = some (.agg [.str [], .str [], .str [], .str [], .str []]) := by kernel_rfl
theorem g89 : Try.prog.eqGuardType Try.prog.depth 89 = false := by kernel_rfl
theorem g90 : Try.prog.eqGuardType Try.prog.depth 90 = false := by kernel_rfl
theorem g91 : Try.prog.eqGuardType Try.prog.depth 91 = false := by kernel_rfl
theorem g92 : Try.prog.eqGuardType Try.prog.depth 92 = false := by kernel_rfl
theorem g94 : Try.prog.eqGuardType Try.prog.depth 94 = false := by kernel_rfl
theorem g95 : Try.prog.eqGuardType Try.prog.depth 95 = false := by kernel_rfl
theorem g96 : Try.prog.eqGuardType Try.prog.depth 96 = false := by kernel_rfl
theorem g97 : Try.prog.eqGuardType Try.prog.depth 97 = false := by kernel_rfl
theorem s97 : szT Try.prog 97 = some 1 := by kernel_rfl
theorem b97 : byT Try.prog 97 = some 8 := by kernel_rfl
theorem a97 : aggT Try.prog 97 = some false := by kernel_rfl
theorem z97 : zT Try.prog 97 = some (.nilp) := by kernel_rfl
theorem g98 : Try.prog.eqGuardType Try.prog.depth 98 = false := by kernel_rfl
theorem g99 : Try.prog.eqGuardType Try.prog.depth 99 = false := by kernel_rfl
theorem s99 : szT Try.prog 99 = some 1 := by kernel_rfl
theorem b99 : byT Try.prog 99 = some 8 := by kernel_rfl
theorem a99 : aggT Try.prog 99 = some false := by kernel_rfl
theorem z99 : zT Try.prog 99 = some (.nilp) := by kernel_rfl
theorem g100 : Try.prog.eqGuardType Try.prog.depth 100 = false := by kernel_rfl
theorem s100 : szT Try.prog 100 = some 1 := by kernel_rfl
theorem b100 : byT Try.prog 100 = some 24 := by kernel_rfl
theorem a100 : aggT Try.prog 100 = some false := by kernel_rfl
theorem z100 : zT Try.prog 100 = some (.nils) := by kernel_rfl
theorem s101 : szT Try.prog 101 = some 2 := by kernel_rfl
theorem b101 : byT Try.prog 101 = some 32 := by kernel_rfl
theorem a101 : aggT Try.prog 101 = some true := by kernel_rfl
theorem z101 : zT Try.prog 101 = some (.agg [.nilp, .nils]) := by kernel_rfl
theorem s102 : szT Try.prog 102 = some 2 := by kernel_rfl
theorem b102 : byT Try.prog 102 = some 32 := by kernel_rfl
theorem a102 : aggT Try.prog 102 = some true := by kernel_rfl
theorem z102 : zT Try.prog 102 = some (.agg [.nilp, .nils]) := by kernel_rfl
theorem g103 : Try.prog.eqGuardType Try.prog.depth 103 = false := by kernel_rfl
theorem s104 : szT Try.prog 104 = some 1 := by kernel_rfl
theorem b104 : byT Try.prog 104 = some 16 := by kernel_rfl
theorem a104 : aggT Try.prog 104 = some false := by kernel_rfl
theorem z104 : zT Try.prog 104 = some (.nili) := by kernel_rfl
theorem s105 : szT Try.prog 105 = some 1 := by kernel_rfl
theorem b105 : byT Try.prog 105 = some 16 := by kernel_rfl
theorem a105 : aggT Try.prog 105 = some false := by kernel_rfl
theorem z105 : zT Try.prog 105 = some (.nili) := by kernel_rfl
theorem g107 : Try.prog.eqGuardType Try.prog.depth 107 = false := by kernel_rfl
theorem g108 : Try.prog.eqGuardType Try.prog.depth 108 = false := by kernel_rfl
theorem g109 : Try.prog.eqGuardType Try.prog.depth 109 = false := by kernel_rfl
theorem s110 : szT Try.prog 110 = some 1 := by kernel_rfl
theorem b110 : byT Try.prog 110 = some 8 := by kernel_rfl
theorem a110 : aggT Try.prog 110 = some false := by kernel_rfl
theorem z110 : zT Try.prog 110 = some (.int .u64 0) := by kernel_rfl
theorem g112 : Try.prog.eqGuardType Try.prog.depth 112 = false := by kernel_rfl
theorem g113 : Try.prog.eqGuardType Try.prog.depth 113 = false := by kernel_rfl
theorem g114 : Try.prog.eqGuardType Try.prog.depth 114 = false := by kernel_rfl
theorem g115 : Try.prog.eqGuardType Try.prog.depth 115 = false := by kernel_rfl
theorem g116 : Try.prog.eqGuardType Try.prog.depth 116 = false := by kernel_rfl
theorem g117 : Try.prog.eqGuardType Try.prog.depth 117 = false := by kernel_rfl
theorem g118 : Try.prog.eqGuardType Try.prog.depth 118 = false := by kernel_rfl
theorem g119 : Try.prog.eqGuardType Try.prog.depth 119 = false := by kernel_rfl
theorem g121 : Try.prog.eqGuardType Try.prog.depth 121 = false := by kernel_rfl
theorem g123 : Try.prog.eqGuardType Try.prog.depth 123 = false := by kernel_rfl
theorem g124 : Try.prog.eqGuardType Try.prog.depth 124 = false := by kernel_rfl
theorem s125 : szT Try.prog 125 = some 64 := by kernel_rfl
theorem b125 : byT Try.prog 125 = some 64 := by kernel_rfl
theorem a125 : aggT Try.prog 125 = some true := by kernel_rfl
theorem g125 : Try.prog.eqGuardType Try.prog.depth 125 = false := by kernel_rfl
theorem h125 : Try.prog.stoodInHeld 125 = false := by kernel_rfl
theorem z125 : zT Try.prog 125 = some (.agg [.int .u8 0, .int .u8 0, .int .u8 0, .int .u8 0, .int .u8 0, .int .u8 0, .int .u8 0, .int .u8 0, .int .u8 0, .int .u8 0, .int .u8 0, .int .u8 0, .int .u8 0, .int .u8 0, .int .u8 0, .int .u8 0, .int .u8 0, .int .u8 0, .int .u8 0, .int .u8 0, .int .u8 0, .int .u8 0, .int .u8 0, .int .u8 0, .int .u8 0, .int .u8 0, .int .u8 0, .int .u8 0, .int .u8 0, .int .u8 0, .int .u8 0, .int .u8 0, .int .u8 0, .int .u8 0, .int .u8 0, .int .u8 0, .int .u8 0, .int .u8 0, .int .u8 0, .int .u8 0, .int .u8 0, .int .u8 0, .int .u8 0, .int .u8 0, .int .u8 0, .int .u8 0, .int .u8 0, .int .u8 0, .int .u8 0, .int .u8 0, .int .u8 0, .int .u8 0, .int .u8 0, .int .u8 0, .int .u8 0, .int .u8 0, .int .u8 0, .int .u8 0, .int .u8 0, .int .u8 0, .int .u8 0, .int .u8 0, .int .u8 0, .int .u8 0]) := by kernel_rfl
theorem g126 : Try.prog.eqGuardType Try.prog.depth 126 = false := by kernel_rfl
theorem s126 : szT Try.prog 126 = some 1 := by kernel_rfl
theorem b126 : byT Try.prog 126 = some 8 := by kernel_rfl
theorem a126 : aggT Try.prog 126 = some false := by kernel_rfl
theorem z126 : zT Try.prog 126 = some (.nilp) := by kernel_rfl
theorem g127 : Try.prog.eqGuardType Try.prog.depth 127 = false := by kernel_rfl
theorem s128 : szT Try.prog 128 = some 1 := by kernel_rfl
theorem b128 : byT Try.prog 128 = some 8 := by kernel_rfl
theorem a128 : aggT Try.prog 128 = some false := by kernel_rfl
theorem z128 : zT Try.prog 128 = some (.int .u64 0) := by kernel_rfl
theorem g130 : Try.prog.eqGuardType Try.prog.depth 130 = false := by kernel_rfl
theorem g131 : Try.prog.eqGuardType Try.prog.depth 131 = false := by kernel_rfl
theorem g132 : Try.prog.eqGuardType Try.prog.depth 132 = false := by kernel_rfl
theorem g133 : Try.prog.eqGuardType Try.prog.depth 133 = false := by kernel_rfl
theorem g134 : Try.prog.eqGuardType Try.prog.depth 134 = false := by kernel_rfl
theorem g136 : Try.prog.eqGuardType Try.prog.depth 136 = false := by kernel_rfl
theorem g137 : Try.prog.eqGuardType Try.prog.depth 137 = false := by kernel_rfl
theorem s138 : szT Try.prog 138 = some 12 := by kernel_rfl
theorem b138 : byT Try.prog 138 = some 96 := by kernel_rfl
theorem a138 : aggT Try.prog 138 = some true := by kernel_rfl
theorem g138 : Try.prog.eqGuardType Try.prog.depth 138 = false := by kernel_rfl
theorem h138 : Try.prog.stoodInHeld 138 = false := by kernel_rfl
theorem z138 : zT Try.prog 138 = some (.agg [.int .i64 0, .int .i64 0, .int .i64 0, .int .i64 0, .int .i64 0, .int .i64 0, .int .i64 0, .int .i64 0, .int .i64 0, .int .i64 0, .int .i64 0, .int .i64 0]) := by kernel_rfl
theorem g139 : Try.prog.eqGuardType Try.prog.depth 139 = false := by kernel_rfl
theorem s140 : szT Try.prog 140 = some 1 := by kernel_rfl
theorem b140 : byT Try.prog 140 = some 4 := by kernel_rfl
theorem a140 : aggT Try.prog 140 = some false := by kernel_rfl
theorem z140 : zT Try.prog 140 = some (.int .u32 0) := by kernel_rfl
theorem g142 : Try.prog.eqGuardType Try.prog.depth 142 = false := by kernel_rfl
theorem g144 : Try.prog.eqGuardType Try.prog.depth 144 = false := by kernel_rfl
theorem g145 : Try.prog.eqGuardType Try.prog.depth 145 = false := by kernel_rfl
theorem s146 : szT Try.prog 146 = some 4 := by kernel_rfl
theorem b146 : byT Try.prog 146 = some 40 := by kernel_rfl
theorem a146 : aggT Try.prog 146 = some true := by kernel_rfl
theorem z146 : zT Try.prog 146 = some (.agg [.nilp, .nilp, .nilp, .str []]) := by kernel_rfl
theorem s147 : szT Try.prog 147 = some 4 := by kernel_rfl
theorem b147 : byT Try.prog 147 = some 40 := by kernel_rfl
theorem a147 : aggT Try.prog 147 = some true := by kernel_rfl
theorem z147 : zT Try.prog 147 = some (.agg [.nilp, .nilp, .nilp, .str []]) := by kernel_rfl
theorem s148 : szT Try.prog 148 = some 0 := by kernel_rfl
theorem b148 : byT Try.prog 148 = some 0 := by kernel_rfl
theorem a148 : aggT Try.prog 148 = some true := by kernel_rfl
theorem z148 : zT Try.prog 148 = some (.agg []) := by kernel_rfl
theorem s149 : szT Try.prog 149 = some 0 := by kernel_rfl
theorem b149 : byT Try.prog 149 = some 0 := by kernel_rfl
theorem a149 : aggT Try.prog 149 = some true := by kernel_rfl
theorem z149 : zT Try.prog 149 = some (.agg []) := by kernel_rfl
theorem s150 : szT Try.prog 150 = some 0 := by kernel_rfl
theorem b150 : byT Try.prog 150 = some 0 := by kernel_rfl
theorem a150 : aggT Try.prog 150 = some true := by kernel_rfl
theorem z150 : zT Try.prog 150 = some (.agg []) := by kernel_rfl
theorem s151 : szT Try.prog 151 = some 1 := by kernel_rfl
theorem b151 : byT Try.prog 151 = some 1 := by kernel_rfl
theorem a151 : aggT Try.prog 151 = some false := by kernel_rfl
theorem z151 : zT Try.prog 151 = some (.int .u8 0) := by kernel_rfl
theorem s152 : szT Try.prog 152 = some 1 := by kernel_rfl
theorem b152 : byT Try.prog 152 = some 1 := by kernel_rfl
theorem a152 : aggT Try.prog 152 = some false := by kernel_rfl
theorem z152 : zT Try.prog 152 = some (.int .u8 0) := by kernel_rfl
theorem g153 : Try.prog.eqGuardType Try.prog.depth 153 = false := by kernel_rfl
theorem s154 : szT Try.prog 154 = some 1 := by kernel_rfl
theorem b154 : byT Try.prog 154 = some 4 := by kernel_rfl
theorem a154 : aggT Try.prog 154 = some false := by kernel_rfl
theorem z154 : zT Try.prog 154 = some (.int .i32 0) := by kernel_rfl
theorem s155 : szT Try.prog 155 = some 1 := by kernel_rfl
theorem b155 : byT Try.prog 155 = some 4 := by kernel_rfl
theorem a155 : aggT Try.prog 155 = some false := by kernel_rfl
theorem z155 : zT Try.prog 155 = some (.int .i32 0) := by kernel_rfl
theorem s156 : szT Try.prog 156 = some 11 := by kernel_rfl
theorem b156 : byT Try.prog 156 = some 48 := by kernel_rfl
theorem a156 : aggT Try.prog 156 = some true := by kernel_rfl
theorem z156 : zT Try.prog 156 = some (.agg [.int .u64 0, .int .u64 0, .int .u32 0, .int .u8 0, .int .u8 0, .int .u8 0, .int .u8 0, .nilf, .nilp, .int .i32 0, .int .i32 0]) := by kernel_rfl
theorem s157 : szT Try.prog 157 = some 11 := by kernel_rfl
theorem b157 : byT Try.prog 157 = some 48 := by kernel_rfl
theorem a157 : aggT Try.prog 157 = some true := by kernel_rfl
theorem z157 : zT Try.prog 157 = some (.agg [.int .u64 0, .int .u64 0, .int .u32 0, .int .u8 0, .int .u8 0, .int .u8 0, .int .u8 0, .nilf, .nilp, .int .i32 0, .int .i32 0]) := by kernel_rfl
attribute [go_sem] g1 s2 b2 a2 z2 s3 b3 a3 z3 s4 b4 a4 z4 s5 b5 a5 z5 s6 b6 a6 z6 s7 b7 a7 g7 h7 z7 s8 b8 a8 g8 h8 z8 s9 b9 a9 z9 s10 b10 a10 z10 s11 b11 a11 z11 s12 b12 a12 z12 s13 b13 a13 z13 s14 b14 a14 z14 g15 s15 b15 a15 z15 g16 s16 b16 a16 z16 g17 s17 b17 a17 z17 s18 b18 a18 z18 s19 b19 a19 z19 s20 b20 a20 z20 s21 b21 a21 z21 s22 b22 a22 g22 h22 z22 s23 b23 a23 g23 h23 z23 s24 b24 a24 g24 h24 z24 s25 b25 a25 g25 h25 z25 g26 s27 b27 a27 z27 g28 g29 g30 g32 g33 g34 g35 g36 s37 b37 a37 g37 h37 z37 s38 b38 a38 g38 h38 z38 g40 g41 g42 g43 s43 b43 a43 z43 g44 g45 g46 g47 g48 s49 b49 a49 g49 h49 z49 s50 b50 a50 g50 h50 z50 g51 g52 g54 g55 s55 b55 a55 z55 s56 b56 a56 z56 s57 b57 a57 z57 s58 b58 a58 z58 g59 g60 s60 b60 a60 z60 g61 s61 b61 a61 z61 g62 g63 g64 s64 b64 a64 z64 g65 s66 b66 a66 g66 h66 z66 g67 g68 s68 b68 a68 z68 g69 s70 b70 a70 g70 h70 z70 s71 b71 a71 g71 h71 z71 g72 g74 g75 g76 g78 g79 s80 b80 a80 g80 h80 z80 g81 g82 s83 b83 a83 g83 h83 z83 g84 g85 g86 g87 s88 b88 a88 g88 h88 z88 g89 g90 g91 g92 g94 g95 g96 g97 s97 b97 a97 z97 g98 g99 s99 b99 a99 z99 g100 s100 b100 a100 z100 s101 b101 a101 z101 s102 b102 a102 z102 g103 s104 b104 a104 z104 s105 b105 a105 z105 g107 g108 g109 s110 b110 a110 z110 g112 g113 g114 g115 g116 g117 g118 g119 g121 g123 g124 s125 b125 a125 g125 h125 z125 g126 s126 b126 a126 z126 g127 s128 b128 a128 z128 g130 g131 g132 g133 g134 g136 g137 s138 b138 a138 g138 h138 z138 g139 s140 b140 a140 z140 g142 g144 g145 s146 b146 a146 z146 s147 b147 a147 z147 s148 b148 a148 z148 s149 b149 a149 z149 s150 b150 a150 z150 s151 b151 a151 z151 s152 b152 a152 z152 g153 s154 b154 a154 z154 s155 b155 a155 z155 s156 b156 a156 z156 s157 b157 a157 z157 Try.underlying1 Try.underlying2 Try.underlying3 Try.underlying4 Try.underlying5 Try.underlying6 Try.underlying7 Try.underlying8 Try.underlying9 Try.underlying10 Try.underlying11 Try.underlying12 Try.underlying13 Try.underlying14 Try.underlying15 Try.underlying16 Try.underlying17 Try.underlying18 Try.underlying19 Try.underlying20 Try.underlying21 Try.underlying22 Try.underlying23 Try.underlying24 Try.underlying25 Try.underlying26 Try.underlying27 Try.underlying28 Try.underlying29 Try.underlying30 Try.underlying32 Try.underlying33 Try.underlying34 Try.underlying35 Try.underlying36 Try.underlying37 Try.underlying38 Try.underlying40 Try.underlying41 Try.underlying42 Try.underlying43 Try.underlying44 Try.underlying45 Try.underlying46 Try.underlying47 Try.underlying48 Try.underlying49 Try.underlying50 Try.underlying51 Try.underlying52 Try.underlying54 Try.underlying55 Try.underlying56 Try.underlying57 Try.underlying58 Try.underlying59 Try.underlying60 Try.underlying61 Try.underlying62 Try.underlying63 Try.underlying64 Try.underlying65 Try.underlying66 Try.underlying67 Try.underlying68 Try.underlying69 Try.underlying70 Try.underlying71 Try.underlying72 Try.underlying74 Try.underlying75 Try.underlying76 Try.underlying78 Try.underlying79 Try.underlying80 Try.underlying81 Try.underlying82 Try.underlying83 Try.underlying84 Try.underlying85 Try.underlying86 Try.underlying87 Try.underlying88 Try.underlying89 Try.underlying90 Try.underlying91 Try.underlying92 Try.underlying94 Try.underlying95 Try.underlying96 Try.underlying97 Try.underlying98 Try.underlying99 Try.underlying100 Try.underlying101 Try.underlying102 Try.underlying103 Try.underlying104 Try.underlying105 Try.underlying107 Try.underlying108 Try.underlying109 Try.underlying110 Try.underlying112 Try.underlying113 Try.underlying114 Try.underlying115 Try.underlying116 Try.underlying117 Try.underlying118 Try.underlying119 Try.underlying121 Try.underlying123 Try.underlying124 Try.underlying125 Try.underlying126 Try.underlying127 Try.underlying128 Try.underlying130 Try.underlying131 Try.underlying132 Try.underlying133 Try.underlying134 Try.underlying136 Try.underlying137 Try.underlying138 Try.underlying139 Try.underlying140 Try.underlying142 Try.underlying144 Try.underlying145 Try.underlying146 Try.underlying147 Try.underlying148 Try.underlying149 Try.underlying150 Try.underlying151 Try.underlying152 Try.underlying153 Try.underlying154 Try.underlying155 Try.underlying156 Try.underlying157
end Go.Proofs.Try.Ty
