import Derived.Test.YtoegojolimaodaaShHD
import Derived.Test.YtoegojolimaodaaProg
import Derived.KernelRfl
import Derived.Lib.Bytealg
section
set_option linter.unusedVariables false
namespace Go.Proofs.Try.Ty
open Go Go.Abs Go.Proofs
theorem mixed : Try.prog.follows .mixedOrders = true := by kernel_rfl
theorem g1 : Try.prog.eqGuardType Try.prog.depth 1 = false := by kernel_rfl
theorem s2 : szT Try.prog 2 = some 1 := by kernel_rfl
theorem b2 : byT Try.prog 2 = some 8 := by kernel_rfl
theorem a2 : aggT Try.prog 2 = some false := by kernel_rfl
theorem z2 : zT Try.prog 2 = some (.int .i64 0) := by kernel_rfl
theorem s3 : szT Try.prog 3 = some 1 := by kernel_rfl
theorem b3 : byT Try.prog 3 = some 8 := by kernel_rfl
theorem a3 : aggT Try.prog 3 = some false := by kernel_rfl
theorem z3 : zT Try.prog 3 = some (.int .i64 0) := by kernel_rfl
theorem s4 : szT Try.prog 4 = some 1 := by kernel_rfl
theorem b4 : byT Try.prog 4 = some 1 := by kernel_rfl
theorem a4 : aggT Try.prog 4 = some false := by kernel_rfl
theorem z4 : zT Try.prog 4 = some (.bool false) := by kernel_rfl
theorem s5 : szT Try.prog 5 = some 1 := by kernel_rfl
theorem b5 : byT Try.prog 5 = some 1 := by kernel_rfl
theorem a5 : aggT Try.prog 5 = some false := by kernel_rfl
theorem z5 : zT Try.prog 5 = some (.int .u8 0) := by kernel_rfl
theorem s6 : szT Try.prog 6 = some 1 := by kernel_rfl
theorem b6 : byT Try.prog 6 = some 1 := by kernel_rfl
theorem a6 : aggT Try.prog 6 = some false := by kernel_rfl
theorem z6 : zT Try.prog 6 = some (.int .u8 0) := by kernel_rfl
theorem s7 : szT Try.prog 7 = some 4 := by kernel_rfl
theorem b7 : byT Try.prog 7 = some 24 := by kernel_rfl
theorem a7 : aggT Try.prog 7 = some true := by kernel_rfl
theorem g7 : Try.prog.eqGuardType Try.prog.depth 7 = false := by kernel_rfl
theorem h7 : Try.prog.stoodInHeld 7 = false := by kernel_rfl
theorem z7 : zT Try.prog 7 = some (.agg [.int .i64 0, .int .i64 0, .bool false, .int .u8 0]) := by kernel_rfl
theorem s8 : szT Try.prog 8 = some 4 := by kernel_rfl
theorem b8 : byT Try.prog 8 = some 24 := by kernel_rfl
theorem a8 : aggT Try.prog 8 = some true := by kernel_rfl
theorem g8 : Try.prog.eqGuardType Try.prog.depth 8 = false := by kernel_rfl
theorem h8 : Try.prog.stoodInHeld 8 = false := by kernel_rfl
theorem z8 : zT Try.prog 8 = some (.agg [.int .i64 0, .int .i64 0, .bool false, .int .u8 0]) := by kernel_rfl
theorem s9 : szT Try.prog 9 = some 1 := by kernel_rfl
theorem b9 : byT Try.prog 9 = some 16 := by kernel_rfl
theorem a9 : aggT Try.prog 9 = some false := by kernel_rfl
theorem z9 : zT Try.prog 9 = some (.str []) := by kernel_rfl
theorem s10 : szT Try.prog 10 = some 1 := by kernel_rfl
theorem b10 : byT Try.prog 10 = some 16 := by kernel_rfl
theorem a10 : aggT Try.prog 10 = some false := by kernel_rfl
theorem z10 : zT Try.prog 10 = some (.str []) := by kernel_rfl
theorem s11 : szT Try.prog 11 = some 1 := by kernel_rfl
theorem b11 : byT Try.prog 11 = some 16 := by kernel_rfl
theorem a11 : aggT Try.prog 11 = some false := by kernel_rfl
theorem z11 : zT Try.prog 11 = some (.str []) := by kernel_rfl
theorem s12 : szT Try.prog 12 = some 1 := by kernel_rfl
theorem b12 : byT Try.prog 12 = some 8 := by kernel_rfl
theorem a12 : aggT Try.prog 12 = some false := by kernel_rfl
theorem z12 : zT Try.prog 12 = some (.int .u64 0) := by kernel_rfl
theorem s13 : szT Try.prog 13 = some 2 := by kernel_rfl
theorem b13 : byT Try.prog 13 = some 24 := by kernel_rfl
theorem a13 : aggT Try.prog 13 = some true := by kernel_rfl
theorem z13 : zT Try.prog 13 = some (.agg [.str [], .int .u64 0]) := by kernel_rfl
theorem s14 : szT Try.prog 14 = some 2 := by kernel_rfl
theorem b14 : byT Try.prog 14 = some 24 := by kernel_rfl
theorem a14 : aggT Try.prog 14 = some true := by kernel_rfl
theorem z14 : zT Try.prog 14 = some (.agg [.str [], .int .u64 0]) := by kernel_rfl
theorem g15 : Try.prog.eqGuardType Try.prog.depth 15 = false := by kernel_rfl
theorem s15 : szT Try.prog 15 = some 1 := by kernel_rfl
theorem b15 : byT Try.prog 15 = some 8 := by kernel_rfl
theorem a15 : aggT Try.prog 15 = some false := by kernel_rfl
theorem z15 : zT Try.prog 15 = some (.nilp) := by kernel_rfl
theorem g16 : Try.prog.eqGuardType Try.prog.depth 16 = false := by kernel_rfl
theorem s16 : szT Try.prog 16 = some 1 := by kernel_rfl
theorem b16 : byT Try.prog 16 = some 8 := by kernel_rfl
theorem a16 : aggT Try.prog 16 = some false := by kernel_rfl
theorem z16 : zT Try.prog 16 = some (.nilp) := by kernel_rfl
theorem g17 : Try.prog.eqGuardType Try.prog.depth 17 = false := by kernel_rfl
theorem s17 : szT Try.prog 17 = some 1 := by kernel_rfl
theorem b17 : byT Try.prog 17 = some 8 := by kernel_rfl
theorem a17 : aggT Try.prog 17 = some false := by kernel_rfl
theorem z17 : zT Try.prog 17 = some (.nilp) := by kernel_rfl
theorem s18 : szT Try.prog 18 = some 1 := by kernel_rfl
theorem b18 : byT Try.prog 18 = some 8 := by kernel_rfl
theorem a18 : aggT Try.prog 18 = some true := by kernel_rfl
theorem z18 : zT Try.prog 18 = some (.agg [.nilp]) := by kernel_rfl
theorem s19 : szT Try.prog 19 = some 1 := by kernel_rfl
theorem b19 : byT Try.prog 19 = some 8 := by kernel_rfl
theorem a19 : aggT Try.prog 19 = some true := by kernel_rfl
theorem z19 : zT Try.prog 19 = some (.agg [.nilp]) := by kernel_rfl
theorem s20 : szT Try.prog 20 = some 1 := by kernel_rfl
theorem b20 : byT Try.prog 20 = some 16 := by kernel_rfl
theorem a20 : aggT Try.prog 20 = some false := by kernel_rfl
theorem z20 : zT Try.prog 20 = some (.nili) := by kernel_rfl
theorem s21 : szT Try.prog 21 = some 1 := by kernel_rfl
theorem b21 : byT Try.prog 21 = some 4 := by kernel_rfl
theorem a21 : aggT Try.prog 21 = some false := by kernel_rfl
theorem z21 : zT Try.prog 21 = some (.int .i32 0) := by kernel_rfl
theorem g22 : Try.prog.eqGuardType Try.prog.depth 22 = false := by kernel_rfl
theorem s22 : szT Try.prog 22 = some 1 := by kernel_rfl
theorem b22 : byT Try.prog 22 = some 24 := by kernel_rfl
theorem a22 : aggT Try.prog 22 = some false := by kernel_rfl
theorem z22 : zT Try.prog 22 = some (.nils) := by kernel_rfl
theorem s23 : szT Try.prog 23 = some 6 := by kernel_rfl
theorem b23 : byT Try.prog 23 = some 88 := by kernel_rfl
theorem a23 : aggT Try.prog 23 = some true := by kernel_rfl
theorem z23 : zT Try.prog 23 = some (.agg [.str [], .str [], .int .i64 0, .int .i64 0, .str [], .nils]) := by kernel_rfl
theorem s24 : szT Try.prog 24 = some 6 := by kernel_rfl
theorem b24 : byT Try.prog 24 = some 88 := by kernel_rfl
theorem a24 : aggT Try.prog 24 = some true := by kernel_rfl
theorem z24 : zT Try.prog 24 = some (.agg [.str [], .str [], .int .i64 0, .int .i64 0, .str [], .nils]) := by kernel_rfl
theorem g25 : Try.prog.eqGuardType Try.prog.depth 25 = false := by kernel_rfl
theorem g26 : Try.prog.eqGuardType Try.prog.depth 26 = false := by kernel_rfl
theorem g27 : Try.prog.eqGuardType Try.prog.depth 27 = false := by kernel_rfl
theorem g28 : Try.prog.eqGuardType Try.prog.depth 28 = false := by kernel_rfl
theorem s28 : szT Try.prog 28 = some 1 := by kernel_rfl
theorem b28 : byT Try.prog 28 = some 24 := by kernel_rfl
theorem a28 : aggT Try.prog 28 = some false := by kernel_rfl
theorem z28 : zT Try.prog 28 = some (.nils) := by kernel_rfl
theorem g29 : Try.prog.eqGuardType Try.prog.depth 29 = false := by kernel_rfl
theorem g30 : Try.prog.eqGuardType Try.prog.depth 30 = false := by kernel_rfl
theorem g31 : Try.prog.eqGuardType Try.prog.depth 31 = false := by kernel_rfl
theorem g32 : Try.prog.eqGuardType Try.prog.depth 32 = false := by kernel_rfl
theorem s32 : szT Try.prog 32 = some 1 := by kernel_rfl
theorem b32 : byT Try.prog 32 = some 24 := by kernel_rfl
theorem a32 : aggT Try.prog 32 = some false := by kernel_rfl
theorem z32 : zT Try.prog 32 = some (.nils) := by kernel_rfl
theorem g33 : Try.prog.eqGuardType Try.prog.depth 33 = false := by kernel_rfl
theorem g34 : Try.prog.eqGuardType Try.prog.depth 34 = false := by kernel_rfl
theorem s35 : szT Try.prog 35 = some 2 := by kernel_rfl
theorem b35 : byT Try.prog 35 = some 24 := by kernel_rfl
theorem a35 : aggT Try.prog 35 = some true := by kernel_rfl
theorem g35 : Try.prog.eqGuardType Try.prog.depth 35 = false := by kernel_rfl
theorem h35 : Try.prog.stoodInHeld 35 = false := by kernel_rfl
theorem z35 : zT Try.prog 35 = some (.agg [.int .i64 0, .str []]) := by kernel_rfl
theorem s36 : szT Try.prog 36 = some 2 := by kernel_rfl
theorem b36 : byT Try.prog 36 = some 24 := by kernel_rfl
theorem a36 : aggT Try.prog 36 = some true := by kernel_rfl
theorem g36 : Try.prog.eqGuardType Try.prog.depth 36 = false := by kernel_rfl
theorem h36 : Try.prog.stoodInHeld 36 = false := by kernel_rfl
theorem z36 : zT Try.prog 36 = some (.agg [.int .i64 0, .str []]) := by kernel_rfl
theorem g37 : Try.prog.eqGuardType Try.prog.depth 37 = false := by kernel_rfl
theorem s37 : szT Try.prog 37 = some 1 := by kernel_rfl
theorem b37 : byT Try.prog 37 = some 24 := by kernel_rfl
theorem a37 : aggT Try.prog 37 = some false := by kernel_rfl
theorem z37 : zT Try.prog 37 = some (.nils) := by kernel_rfl
theorem s38 : szT Try.prog 38 = some 3 := by kernel_rfl
theorem b38 : byT Try.prog 38 = some 48 := by kernel_rfl
theorem a38 : aggT Try.prog 38 = some true := by kernel_rfl
theorem g38 : Try.prog.eqGuardType Try.prog.depth 38 = false := by kernel_rfl
theorem h38 : Try.prog.stoodInHeld 38 = false := by kernel_rfl
theorem z38 : zT Try.prog 38 = some (.agg [.str [], .str [], .str []]) := by kernel_rfl
theorem g39 : Try.prog.eqGuardType Try.prog.depth 39 = false := by kernel_rfl
theorem s40 : szT Try.prog 40 = some 2 := by kernel_rfl
theorem b40 : byT Try.prog 40 = some 24 := by kernel_rfl
theorem a40 : aggT Try.prog 40 = some true := by kernel_rfl
theorem g40 : Try.prog.eqGuardType Try.prog.depth 40 = false := by kernel_rfl
theorem h40 : Try.prog.stoodInHeld 40 = false := by kernel_rfl
theorem z40 : zT Try.prog 40 = some (.agg [.int .i64 0, .str []]) := by kernel_rfl
theorem g41 : Try.prog.eqGuardType Try.prog.depth 41 = false := by kernel_rfl
theorem s42 : szT Try.prog 42 = some 2 := by kernel_rfl
theorem b42 : byT Try.prog 42 = some 32 := by kernel_rfl
theorem a42 : aggT Try.prog 42 = some true := by kernel_rfl
theorem g42 : Try.prog.eqGuardType Try.prog.depth 42 = false := by kernel_rfl
theorem h42 : Try.prog.stoodInHeld 42 = false := by kernel_rfl
theorem z42 : zT Try.prog 42 = some (.agg [.str [], .str []]) := by kernel_rfl
theorem s43 : szT Try.prog 43 = some 2 := by kernel_rfl
theorem b43 : byT Try.prog 43 = some 32 := by kernel_rfl
theorem a43 : aggT Try.prog 43 = some true := by kernel_rfl
theorem g43 : Try.prog.eqGuardType Try.prog.depth 43 = false := by kernel_rfl
theorem h43 : Try.prog.stoodInHeld 43 = false := by kernel_rfl
theorem z43 : zT Try.prog 43 = some (.agg [.str [], .str []]) := by kernel_rfl
theorem g44 : Try.prog.eqGuardType Try.prog.depth 44 = false := by kernel_rfl
theorem s44 : szT Try.prog 44 = some 1 := by kernel_rfl
theorem b44 : byT Try.prog 44 = some 24 := by kernel_rfl
theorem a44 : aggT Try.prog 44 = some false := by kernel_rfl
theorem z44 : zT Try.prog 44 = some (.nils) := by kernel_rfl
theorem g45 : Try.prog.eqGuardType Try.prog.depth 45 = false := by kernel_rfl
theorem g46 : Try.prog.eqGuardType Try.prog.depth 46 = false := by kernel_rfl
theorem g47 : Try.prog.eqGuardType Try.prog.depth 47 = false := by kernel_rfl
theorem s47 : szT Try.prog 47 = some 1 := by kernel_rfl
theorem b47 : byT Try.prog 47 = some 24 := by kernel_rfl
theorem a47 : aggT Try.prog 47 = some false := by kernel_rfl
theorem z47 : zT Try.prog 47 = some (.nils) := by kernel_rfl
theorem g48 : Try.prog.eqGuardType Try.prog.depth 48 = false := by kernel_rfl
theorem g49 : Try.prog.eqGuardType Try.prog.depth 49 = false := by kernel_rfl
theorem g50 : Try.prog.eqGuardType Try.prog.depth 50 = false := by kernel_rfl
theorem g51 : Try.prog.eqGuardType Try.prog.depth 51 = false := by kernel_rfl
theorem g52 : Try.prog.eqGuardType Try.prog.depth 52 = false := by kernel_rfl
theorem g53 : Try.prog.eqGuardType Try.prog.depth 53 = false := by kernel_rfl
theorem g54 : Try.prog.eqGuardType Try.prog.depth 54 = false := by kernel_rfl
theorem s54 : szT Try.prog 54 = some 1 := by kernel_rfl
theorem b54 : byT Try.prog 54 = some 8 := by kernel_rfl
theorem a54 : aggT Try.prog 54 = some false := by kernel_rfl
theorem g55 : Try.prog.eqGuardType Try.prog.depth 55 = false := by kernel_rfl
theorem g56 : Try.prog.eqGuardType Try.prog.depth 56 = false := by kernel_rfl
theorem g57 : Try.prog.eqGuardType Try.prog.depth 57 = false := by kernel_rfl
theorem g58 : Try.prog.eqGuardType Try.prog.depth 58 = false := by kernel_rfl
theorem g59 : Try.prog.eqGuardType Try.prog.depth 59 = false := by kernel_rfl
theorem g60 : Try.prog.eqGuardType Try.prog.depth 60 = false := by kernel_rfl
theorem g61 : Try.prog.eqGuardType Try.prog.depth 61 = false := by kernel_rfl
theorem s62 : szT Try.prog 62 = some 4 := by kernel_rfl
theorem b62 : byT Try.prog 62 = some 64 := by kernel_rfl
theorem a62 : aggT Try.prog 62 = some true := by kernel_rfl
theorem g62 : Try.prog.eqGuardType Try.prog.depth 62 = false := by kernel_rfl
theorem h62 : Try.prog.stoodInHeld 62 = false := by kernel_rfl
theorem z62 : zT Try.prog 62 = some (.agg [.str [], .str [], .str [], .str []]) := by kernel_rfl
theorem g63 : Try.prog.eqGuardType Try.prog.depth 63 = false := by kernel_rfl
theorem g64 : Try.prog.eqGuardType Try.prog.depth 64 = false := by kernel_rfl
theorem g65 : Try.prog.eqGuardType Try.prog.depth 65 = false := by kernel_rfl
theorem s65 : szT Try.prog 65 = some 1 := by kernel_rfl
theorem b65 : byT Try.prog 65 = some 24 := by kernel_rfl
theorem a65 : aggT Try.prog 65 = some false := by kernel_rfl
theorem z65 : zT Try.prog 65 = some (.nils) := by kernel_rfl
theorem g66 : Try.prog.eqGuardType Try.prog.depth 66 = false := by kernel_rfl
theorem g67 : Try.prog.eqGuardType Try.prog.depth 67 = false := by kernel_rfl
theorem g68 : Try.prog.eqGuardType Try.prog.depth 68 = false := by kernel_rfl
theorem g69 : Try.prog.eqGuardType Try.prog.depth 69 = false := by kernel_rfl
theorem g70 : Try.prog.eqGuardType Try.prog.depth 70 = false := by kernel_rfl
theorem g71 : Try.prog.eqGuardType Try.prog.depth 71 = false := by kernel_rfl
theorem g72 : Try.prog.eqGuardType Try.prog.depth 72 = false := by kernel_rfl
theorem s73 : szT Try.prog 73 = some 1 := by kernel_rfl
theorem b73 : byT Try.prog 73 = some 8 := by kernel_rfl
theorem a73 : aggT Try.prog 73 = some false := by kernel_rfl
theorem z73 : zT Try.prog 73 = some (.int .u64 0) := by kernel_rfl
theorem g75 : Try.prog.eqGuardType Try.prog.depth 75 = false := by kernel_rfl
theorem g76 : Try.prog.eqGuardType Try.prog.depth 76 = false := by kernel_rfl
theorem s76 : szT Try.prog 76 = some 1 := by kernel_rfl
theorem b76 : byT Try.prog 76 = some 8 := by kernel_rfl
theorem a76 : aggT Try.prog 76 = some false := by kernel_rfl
theorem z76 : zT Try.prog 76 = some (.nilp) := by kernel_rfl
theorem s77 : szT Try.prog 77 = some 2 := by kernel_rfl
theorem b77 : byT Try.prog 77 = some 32 := by kernel_rfl
theorem a77 : aggT Try.prog 77 = some true := by kernel_rfl
theorem z77 : zT Try.prog 77 = some (.agg [.nilp, .nils]) := by kernel_rfl
theorem s78 : szT Try.prog 78 = some 2 := by kernel_rfl
theorem b78 : byT Try.prog 78 = some 32 := by kernel_rfl
theorem a78 : aggT Try.prog 78 = some true := by kernel_rfl
theorem z78 : zT Try.prog 78 = some (.agg [.nilp, .nils]) := by kernel_rfl
theorem g79 : Try.prog.eqGuardType Try.prog.depth 79 = false := by kernel_rfl
theorem s80 : szT Try.prog 80 = some 1 := by kernel_rfl
theorem b80 : byT Try.prog 80 = some 16 := by kernel_rfl
theorem a80 : aggT Try.prog 80 = some false := by kernel_rfl
theorem z80 : zT Try.prog 80 = some (.nili) := by kernel_rfl
theorem s81 : szT Try.prog 81 = some 1 := by kernel_rfl
theorem b81 : byT Try.prog 81 = some 16 := by kernel_rfl
theorem a81 : aggT Try.prog 81 = some false := by kernel_rfl
theorem z81 : zT Try.prog 81 = some (.nili) := by kernel_rfl
theorem g83 : Try.prog.eqGuardType Try.prog.depth 83 = false := by kernel_rfl
theorem g84 : Try.prog.eqGuardType Try.prog.depth 84 = false := by kernel_rfl
theorem g85 : Try.prog.eqGuardType Try.prog.depth 85 = false := by kernel_rfl
theorem g86 : Try.prog.eqGuardType Try.prog.depth 86 = false := by kernel_rfl
theorem g87 : Try.prog.eqGuardType Try.prog.depth 87 = false := by kernel_rfl
theorem s88 : szT Try.prog 88 = some 1 := by kernel_rfl
theorem b88 : byT Try.prog 88 = some 8 := by kernel_rfl
theorem a88 : aggT Try.prog 88 = some false := by kernel_rfl
theorem z88 : zT Try.prog 88 = some (.int .u64 0) := by kernel_rfl
theorem s89 : szT Try.prog 89 = some 64 := by kernel_rfl
theorem b89 : byT Try.prog 89 = some 64 := by kernel_rfl
theorem a89 : aggT Try.prog 89 = some true := by kernel_rfl
theorem g89 : Try.prog.eqGuardType Try.prog.depth 89 = false := by kernel_rfl
theorem h89 : Try.prog.stoodInHeld 89 = false := by kernel_rfl
theorem z89 : zT Try.prog 89 = some (.agg [.int .u8 0, .int .u8 0, .int .u8 0, .int .u8 0, .int .u8 0, .int .u8 0, .int .u8 0, .int .u8 0, .int .u8 0, .int .u8 0, .int .u8 0, .int .u8 0, .int .u8 0, .int .u8 0, .int .u8 0, .int .u8 0, .int .u8 0, .int .u8 0, .int .u8 0, .int .u8 0, .int .u8 0, .int .u8 0, .int .u8 0, .int .u8 0, .int .u8 0, .int .u8 0, .int .u8 0, .int .u8 0, .int .u8 0, .int .u8 0, .int .u8 0, .int .u8 0, .int .u8 0, .int .u8 0, .int .u8 0, .int .u8 0, .int .u8 0, .int .u8 0, .int .u8 0, .int .u8 0, .int .u8 0, .int .u8 0, .int .u8 0, .int .u8 0, .int .u8 0, .int .u8 0, .int .u8 0, .int .u8 0, .int .u8 0, .int .u8 0, .int .u8 0, .int .u8 0, .int .u8 0, .int .u8 0, .int .u8 0, .int .u8 0, .int .u8 0, .int .u8 0, .int .u8 0, .int .u8 0, .int .u8 0, .int .u8 0, .int .u8 0, .int .u8 0]) := by kernel_rfl
theorem s90 : szT Try.prog 90 = some 1 := by kernel_rfl
theorem b90 : byT Try.prog 90 = some 4 := by kernel_rfl
theorem a90 : aggT Try.prog 90 = some false := by kernel_rfl
theorem z90 : zT Try.prog 90 = some (.int .u32 0) := by kernel_rfl
theorem g92 : Try.prog.eqGuardType Try.prog.depth 92 = false := by kernel_rfl
theorem g94 : Try.prog.eqGuardType Try.prog.depth 94 = false := by kernel_rfl
theorem g95 : Try.prog.eqGuardType Try.prog.depth 95 = false := by kernel_rfl
theorem s95 : szT Try.prog 95 = some 1 := by kernel_rfl
theorem b95 : byT Try.prog 95 = some 8 := by kernel_rfl
theorem a95 : aggT Try.prog 95 = some false := by kernel_rfl
theorem z95 : zT Try.prog 95 = some (.nilp) := by kernel_rfl
theorem g97 : Try.prog.eqGuardType Try.prog.depth 97 = false := by kernel_rfl
theorem g98 : Try.prog.eqGuardType Try.prog.depth 98 = false := by kernel_rfl
theorem s99 : szT Try.prog 99 = some 4 := by kernel_rfl
theorem b99 : byT Try.prog 99 = some 40 := by kernel_rfl
theorem a99 : aggT Try.prog 99 = some true := by kernel_rfl
theorem z99 : zT Try.prog 99 = some (.agg [.nilp, .nilp, .nilp, .str []]) := by kernel_rfl
theorem s100 : szT Try.prog 100 = some 4 := by kernel_rfl
theorem b100 : byT Try.prog 100 = some 40 := by kernel_rfl
theorem a100 : aggT Try.prog 100 = some true := by kernel_rfl
theorem z100 : zT Try.prog 100 = some (.agg [.nilp, .nilp, .nilp, .str []]) := by kernel_rfl
theorem s101 : szT Try.prog 101 = some 0 := by kernel_rfl
theorem b101 : byT Try.prog 101 = some 0 := by kernel_rfl
theorem a101 : aggT Try.prog 101 = some true := by kernel_rfl
theorem z101 : zT Try.prog 101 = some (.agg []) := by kernel_rfl
theorem s102 : szT Try.prog 102 = some 0 := by kernel_rfl
theorem b102 : byT Try.prog 102 = some 0 := by kernel_rfl
theorem a102 : aggT Try.prog 102 = some true := by kernel_rfl
theorem z102 : zT Try.prog 102 = some (.agg []) := by kernel_rfl
theorem s103 : szT Try.prog 103 = some 0 := by kernel_rfl
theorem b103 : byT Try.prog 103 = some 0 := by kernel_rfl
theorem a103 : aggT Try.prog 103 = some true := by kernel_rfl
theorem z103 : zT Try.prog 103 = some (.agg []) := by kernel_rfl
theorem s104 : szT Try.prog 104 = some 1 := by kernel_rfl
theorem b104 : byT Try.prog 104 = some 1 := by kernel_rfl
theorem a104 : aggT Try.prog 104 = some false := by kernel_rfl
theorem z104 : zT Try.prog 104 = some (.int .u8 0) := by kernel_rfl
theorem s105 : szT Try.prog 105 = some 1 := by kernel_rfl
theorem b105 : byT Try.prog 105 = some 1 := by kernel_rfl
theorem a105 : aggT Try.prog 105 = some false := by kernel_rfl
theorem z105 : zT Try.prog 105 = some (.int .u8 0) := by kernel_rfl
theorem g106 : Try.prog.eqGuardType Try.prog.depth 106 = false := by kernel_rfl
theorem s107 : szT Try.prog 107 = some 1 := by kernel_rfl
theorem b107 : byT Try.prog 107 = some 4 := by kernel_rfl
theorem a107 : aggT Try.prog 107 = some false := by kernel_rfl
theorem z107 : zT Try.prog 107 = some (.int .i32 0) := by kernel_rfl
theorem s108 : szT Try.prog 108 = some 1 := by kernel_rfl
theorem b108 : byT Try.prog 108 = some 4 := by kernel_rfl
theorem a108 : aggT Try.prog 108 = some false := by kernel_rfl
theorem z108 : zT Try.prog 108 = some (.int .i32 0) := by kernel_rfl
theorem s109 : szT Try.prog 109 = some 11 := by kernel_rfl
theorem b109 : byT Try.prog 109 = some 48 := by kernel_rfl
theorem a109 : aggT Try.prog 109 = some true := by kernel_rfl
theorem z109 : zT Try.prog 109 = some (.agg [.int .u64 0, .int .u64 0, .int .u32 0, .int .u8 0, .int .u8 0, .int .u8 0, .int .u8 0, .nilf, .nilp, .int .i32 0, .int .i32 0]) := by kernel_rfl
theorem s110 : szT Try.prog 110 = some 11 := by kernel_rfl
theorem b110 : byT Try.prog 110 = some 48 := by kernel_rfl
theorem a110 : aggT Try.prog 110 = some true := by kernel_rfl
theorem z110 : zT Try.prog 110 = some (.agg [.int .u64 0, .int .u64 0, .int .u32 0, .int .u8 0, .int .u8 0, .int .u8 0, .int .u8 0, .nilf, .nilp, .int .i32 0, .int .i32 0]) := by kernel_rfl
attribute [go_sem] g1 s2 b2 a2 z2 s3 b3 a3 z3 s4 b4 a4 z4 s5 b5 a5 z5 s6 b6 a6 z6 s7 b7 a7 g7 h7 z7 s8 b8 a8 g8 h8 z8 s9 b9 a9 z9 s10 b10 a10 z10 s11 b11 a11 z11 s12 b12 a12 z12 s13 b13 a13 z13 s14 b14 a14 z14 g15 s15 b15 a15 z15 g16 s16 b16 a16 z16 g17 s17 b17 a17 z17 s18 b18 a18 z18 s19 b19 a19 z19 s20 b20 a20 z20 s21 b21 a21 z21 g22 s22 b22 a22 z22 s23 b23 a23 z23 s24 b24 a24 z24 g25 g26 g27 g28 s28 b28 a28 z28 g29 g30 g31 g32 s32 b32 a32 z32 g33 g34 s35 b35 a35 g35 h35 z35 s36 b36 a36 g36 h36 z36 g37 s37 b37 a37 z37 s38 b38 a38 g38 h38 z38 g39 s40 b40 a40 g40 h40 z40 g41 s42 b42 a42 g42 h42 z42 s43 b43 a43 g43 h43 z43 g44 s44 b44 a44 z44 g45 g46 g47 s47 b47 a47 z47 g48 g49 g50 g51 g52 g53 g54 s54 b54 a54 g55 g56 g57 g58 g59 g60 g61 s62 b62 a62 g62 h62 z62 g63 g64 g65 s65 b65 a65 z65 g66 g67 g68 g69 g70 g71 g72 s73 b73 a73 z73 g75 g76 s76 b76 a76 z76 s77 b77 a77 z77 s78 b78 a78 z78 g79 s80 b80 a80 z80 s81 b81 a81 z81 g83 g84 g85 g86 g87 s88 b88 a88 z88 s89 b89 a89 g89 h89 z89 s90 b90 a90 z90 g92 g94 g95 s95 b95 a95 z95 g97 g98 s99 b99 a99 z99 s100 b100 a100 z100 s101 b101 a101 z101 s102 b102 a102 z102 s103 b103 a103 z103 s104 b104 a104 z104 s105 b105 a105 z105 g106 s107 b107 a107 z107 s108 b108 a108 z108 s109 b109 a109 z109 s110 b110 a110 z110 Try.underlying1 Try.underlying2 Try.underlying3 Try.underlying4 Try.underlying5 Try.underlying6 Try.underlying7 Try.underlying8 Try.underlying9 Try.underlying10 Try.underlying11 Try.underlying12 Try.underlying13 Try.underlying14 Try.underlying15 Try.underlying16 Try.underlying17 Try.underlying18 Try.underlying19 Try.underlying20 Try.underlying21 Try.underlying22 Try.underlying23 Try.underlying24 Try.underlying25 Try.underlying26 Try.underlying27 Try.underlying28 Try.underlying29 Try.underlying30 Try.underlying31 Try.underlying32 Try.underlying33 Try.underlying34 Try.underlying35 Try.underlying36 Try.underlying37 Try.underlying38 Try.underlying39 Try.underlying40 Try.underlying41 Try.underlying42 Try.underlying43 Try.underlying44 Try.underlying45 Try.underlying46 Try.underlying47 Try.underlying48 Try.underlying49 Try.underlying50 Try.underlying51 Try.underlying52 Try.underlying53 Try.underlying54 Try.underlying55 Try.underlying56 Try.underlying57 Try.underlying58 Try.underlying59 Try.underlying60 Try.underlying61 Try.underlying62 Try.underlying63 Try.underlying64 Try.underlying65 Try.underlying66 Try.underlying67 Try.underlying68 Try.underlying69 Try.underlying70 Try.underlying71 Try.underlying72 Try.underlying73 Try.underlying75 Try.underlying76 Try.underlying77 Try.underlying78 Try.underlying79 Try.underlying80 Try.underlying81 Try.underlying83 Try.underlying84 Try.underlying85 Try.underlying86 Try.underlying87 Try.underlying88 Try.underlying89 Try.underlying90 Try.underlying92 Try.underlying94 Try.underlying95 Try.underlying97 Try.underlying98 Try.underlying99 Try.underlying100 Try.underlying101 Try.underlying102 Try.underlying103 Try.underlying104 Try.underlying105 Try.underlying106 Try.underlying107 Try.underlying108 Try.underlying109 Try.underlying110
end Go.Proofs.Try.Ty
end
section
set_option linter.unusedVariables false
set_option linter.unusedSimpArgs false
namespace Go.Abs
theorem bget (s : List UInt8) (i : Nat) : (ByteArray.mk s.toArray).get! i = s.getD i 0 := by
  show s.toArray[i]! = _
  rw [getElem!_def]
  simp only [List.getElem?_toArray, List.getD_eq_getElem?_getD]
  cases s[i]? <;> rfl
theorem bsize (s : List UInt8) : (ByteArray.mk s.toArray).size = s.length := by simp [ByteArray.size]
theorem rune_low {s : List UInt8} {pos : Nat} (h : (s.getD pos 0).toNat < 128) : runeAt s pos = (((s.getD pos 0).toNat : Int), 1) := by
  simp only [runeAt, Utf8.decode, Nat.add_zero, bget, h, if_true]
theorem rune_high {s : List UInt8} {pos : Nat} (hp : pos < s.length) (h : 128 ≤ (s.getD pos 0).toNat) :
    128 ≤ (runeAt s pos).1 ∧ (runeAt s pos).1 ≤ 2147483647 ∧ 1 ≤ (runeAt s pos).2 ∧ pos + (runeAt s pos).2 ≤ s.length ∧ ∀ k, k < (runeAt s pos).2 → 128 ≤ (s.getD (pos + k) 0).toNat := by
  have hn : ¬ (s.getD pos 0).toNat < 128 := by omega
  have hb : ∀ k, (s.getD k 0).toNat < 256 := fun k => (s.getD k 0).toNat_lt
  have b0 := hb pos
  have b1 := hb (pos + 1)
  have b2 := hb (pos + 2)
  have b3 := hb (pos + 3)
  have k1 : ∀ k, k < 1 → 128 ≤ (s.getD (pos + k) 0).toNat := fun k hk => by
    have : k = 0 := by omega
    subst this; exact h
  simp only [runeAt, Utf8.decode, Nat.add_zero, bget, bsize, if_neg hn, Utf8.runeError]
  split
  · rename_i c
    simp only [Bool.and_eq_true, decide_eq_true_eq, beq_iff_eq] at c
    split
    · refine ⟨by simp only; omega, by simp only; omega, by simp, by simp only; omega, fun k hk => ?_⟩
      simp only at hk
      have : k = 0 ∨ k = 1 := by omega
      rcases this with rfl | rfl
      · exact h
      · omega
    · exact ⟨by simp, by simp, by simp, by simp only; omega, k1⟩
  · split
    · rename_i c
      simp only [Bool.and_eq_true, decide_eq_true_eq, beq_iff_eq] at c
      split
      · rename_i v
        simp only [Bool.and_eq_true, decide_eq_true_eq] at v
        refine ⟨by simp only; omega, by simp only; omega, by simp, by simp only; omega, fun k hk => ?_⟩
        simp only at hk
        have : k = 0 ∨ k = 1 ∨ k = 2 := by omega
        rcases this with rfl | rfl | rfl
        · exact h
        · omega
        · omega
      · exact ⟨by simp, by simp, by simp, by simp only; omega, k1⟩
    · split
      · rename_i c
        simp only [Bool.and_eq_true, decide_eq_true_eq, beq_iff_eq] at c
        split
        · rename_i v
          simp only [Bool.and_eq_true, decide_eq_true_eq] at v
          refine ⟨by simp only; omega, by simp only; omega, by simp, by simp only; omega, fun k hk => ?_⟩
          simp only at hk
          have : k = 0 ∨ k = 1 ∨ k = 2 ∨ k = 3 := by omega
          rcases this with rfl | rfl | rfl | rfl
          · exact h
          · omega
          · omega
          · omega
        · exact ⟨by simp, by simp, by simp, by simp only; omega, k1⟩
      · exact ⟨by simp, by simp, by simp, by simp only; omega, k1⟩
structure RuneB (PR : Int → Bool) (p : UInt8 → Bool) (b : Bool) : Prop where
  low : ∀ c : UInt8, c.toNat < 128 → PR c.toNat = p c
  rune : ∀ r : Int, 128 ≤ r → PR r = b
  high : ∀ c : UInt8, 128 ≤ c.toNat → p c = b
theorem getD_of_lt {α : Type} {s : List α} {d : α} {i : Nat} (h : i < s.length) : s[i]? = some (s.getD i d) := by
  rw [List.getElem?_eq_getElem h]; simp [List.getD_eq_getElem?_getD, List.getElem?_eq_getElem h]
theorem take_all_add {p : UInt8 → Bool} {s : List UInt8} {pos n : Nat} (h : (s.take pos).all p = true) (hn : ∀ k, k < n → p (s.getD (pos + k) 0) = true) (hle : pos + n ≤ s.length) : (s.take (pos + n)).all p = true := by
  rw [List.take_add, List.all_append, h, Bool.true_and, List.all_eq_true]
  intro x hx
  obtain ⟨i, hi⟩ := List.getElem?_of_mem hx
  rw [List.getElem?_take] at hi
  split at hi
  · rename_i hlt
    rw [List.getElem?_drop, getD_of_lt (d := 0) (by omega)] at hi
    cases hi
    exact hn i hlt
  · cases hi
theorem RuneB.step {PR : Int → Bool} {p : UInt8 → Bool} {b : Bool} (h : RuneB PR p b) {s : List UInt8} {pos : Nat} (hp : pos < s.length) (ha : (s.take pos).all p = true) :
    (PR (runeAt s pos).1 = true → (s.take (pos + (runeAt s pos).2)).all p = true) ∧ (PR (runeAt s pos).1 = false → s.all p = false) := by
  have bad : ∀ {x : UInt8}, s[pos]? = some x → p x = false → s.all p = false := by
    intro x hx hpx
    rw [← Bool.not_eq_true, List.all_eq_true]
    intro hh
    have := hh x (List.mem_of_getElem? hx)
    rw [hpx] at this; cases this
  have hg := getD_of_lt (s := s) (d := 0) hp
  by_cases hl : (s.getD pos 0).toNat < 128
  · rw [rune_low hl]
    refine ⟨fun he => ?_, fun he => bad hg (by rw [← h.low _ hl]; exact he)⟩
    refine take_all_add ha (fun k hk => ?_) (by omega)
    have : k = 0 := by omega
    subst this
    rw [Nat.add_zero, ← h.low _ hl]; exact he
  · obtain ⟨h1, h2, h3, h4, h5⟩ := rune_high hp (by omega)
    rw [h.rune _ h1]
    refine ⟨fun he => take_all_add ha (fun k hk => by rw [h.high _ (h5 k hk)]; exact he) h4, fun he => bad hg (by rw [h.high _ (by omega)]; exact he)⟩
theorem take_succ_getD {α : Type} {s : List α} {x : Nat} (d : α) (hx : x < s.length) : s.take (x + 1) = s.take x ++ [s.getD x d] := by
  rw [List.take_succ_eq_append_getElem hx]
  simp [List.getD_eq_getElem?_getD, List.getElem?_eq_getElem hx]
theorem same_step {α : Type} {a b : List α} {x : Nat} (d : α) (hl : a.length = b.length) (hx : x < a.length) (h : a.take x = b.take x) :
    (a.getD x d = b.getD x d → a.take (x + 1) = b.take (x + 1)) ∧ (a.getD x d ≠ b.getD x d → a ≠ b) := by
  refine ⟨fun he => ?_, fun hne e => hne (by rw [e])⟩
  rw [take_succ_getD d hx, take_succ_getD d (by omega), h, he]
end Go.Abs
end
section
set_option linter.unusedVariables false
set_option linter.unusedSimpArgs false
namespace Go.Mdl
open Go Go.Abs
def lowerB (c : UInt8) : UInt8 := if 65 ≤ c.toNat ∧ c.toNat ≤ 90 then c + 32 else c
def lowerS (s : List UInt8) : List UInt8 := s.map lowerB
def blankB (c : UInt8) : Bool := decide (c = 32) || decide (c = 9)
def trimL (s : List UInt8) : List UInt8 := s.dropWhile blankB
def trimR (s : List UInt8) : List UInt8 := (s.reverse.dropWhile blankB).reverse
def trimS (s : List UInt8) : List UInt8 := trimR (trimL s)
end Go.Mdl
end
section
set_option linter.unusedVariables false
set_option linter.unusedSimpArgs false
namespace Go.Proofs.Try.Oct
open Go Go.Abs Go.Proofs Go.Mdl
def T_specSame : Tbl := fun g E args => nilT g E args
theorem T_specSame_ok : TblOK Try.prog T_specSame := nilT_ok
set_option maxRecDepth 100000 in
set_option maxHeartbeats 4000000 in
theorem specSame (a b : List (List UInt8)) (h : a.length ≤ 2147483647) : SpecE Try.prog 6 [] [enc_strs a, enc_strs b] [] (.bool (decide (a = b))) := by
  refine specF0 (C := T_specSame) (wr := false) (D := fun _ => []) (U := fun _ => none) (res := [.bool (decide (a = b))]) Try.Ty.mixed T_specSame_ok Try.func6 (nA := 2) (by decide +kernel) rfl (fun _ => rfl) ?_
  simp only [Try.f6, bodyOf, rlOf]
  rw [W_V]
  simp (config := {maxSteps := 2000000}) only [T_specSame, go_sem, seval]
  (try simp (config := {maxSteps := 2000000}) only [gimp, impB, isT, go_sem, seval])
  refine ⟨fun hne => ?_, fun heq => ?_⟩
  · symm; rw [decide_eq_false_iff_not]; rintro rfl; exact hne rfl
  have hl : a.length = b.length := by omega
  refine VL_inv (X := Nat) (fun x => ⟨[(0, enc_strs a), (1, enc_strs b), (5, .int .i64 x)], []⟩) (fun x => x ≤ a.length ∧ a.take x = b.take x) (fun x => a.length - x) 0 ?_ ?_ ?_
  · simp only [go_sem, go_sem, seval]
  · exact ⟨Nat.zero_le _, by simp⟩
  rintro x ⟨hx, hn⟩
  simp (config := {maxSteps := 2000000}) only [T_specSame, go_sem, seval]
  (try simp (config := {maxSteps := 2000000}) only [gimp, impB, isT, go_sem, seval])
  refine ⟨fun hlt => ?_, fun hge => ?_⟩
  · obtain ⟨h1, h2⟩ := same_step (a := a) (b := b) (x := x) [] hl (by omega) hn
    refine ⟨by omega, by omega, fun he => ?_, fun he => ⟨by omega, x + 1, by omega, ⟨by omega, h1 (by simpa using he)⟩, by omega⟩⟩
    simp [h2 he]
  · have : x = a.length := by omega
    subst this
    rw [List.take_length, hl, List.take_length] at hn
    simp [hn]
def tb_specSame : List Blk → List AV → Option (List Blk × AV × Prop)
  | [], [a0, a1] => some ([], .bool (decide ((dec_strs a0) = (dec_strs a1))), ((dec_strs a0).length ≤ 2147483647) ∧ argOK a0 (enc_strs (dec_strs a0)) ∧ argOK a1 (enc_strs (dec_strs a1)))
  | _, _ => none
theorem tb_specSame_ok : ∀ E args E' res p, tb_specSame E args = some (E', res, p) → p → SpecE Try.prog 6 E args E' res := by
  intro E args E' res p h hp
  unfold tb_specSame at h
  split at h
  · simp only [Option.some.injEq, Prod.mk.injEq] at h
    obtain ⟨rfl, rfl, rfl⟩ := h
    exact SpecE.args (specSame _ _ hp.1) (.cons hp.2.1 (.cons hp.2.2 .nil))
  · cases h
end Go.Proofs.Try.Oct
end
section
set_option linter.unusedVariables false
set_option linter.unusedSimpArgs false
namespace Go.Mdl
open Go Go.Abs
theorem trimL_cons {s : List UInt8} (h : 0 < s.length) (hb : blankB (s.getD 0 0) = true) : trimL (s.drop 1) = trimL s := by
  cases s with
  | nil => simp at h
  | cons a l => simp at hb; simp [trimL, hb]
theorem trimL_none {s : List UInt8} (h : 0 < s.length → blankB (s.getD 0 0) = false) : trimL s = s := by
  cases s with
  | nil => rfl
  | cons a l => have := h (by simp); simp at this; simp [trimL, this]
theorem getLast_drop {s : List UInt8} (h : 0 < s.length) : s = s.take (s.length - 1) ++ [s.getD (s.length - 1) 0] := by
  rw [← take_succ_getD 0 (by omega), List.take_of_length_le (by omega)]
theorem trimR_snoc {s : List UInt8} (h : 0 < s.length) (hb : blankB (s.getD (s.length - 1) 0) = true) : trimR (s.take (s.length - 1)) = trimR s := by
  have e := getLast_drop h
  generalize s.take (s.length - 1) = t at *
  generalize s.getD (s.length - 1) 0 = c at *
  subst e
  simp [trimR, hb]
theorem trimR_none {s : List UInt8} (h : 0 < s.length → blankB (s.getD (s.length - 1) 0) = false) : trimR s = s := by
  by_cases h0 : 0 < s.length
  · have e := getLast_drop h0
    have hb := h h0
    generalize s.take (s.length - 1) = t at *
    generalize s.getD (s.length - 1) 0 = c at *
    subst e
    simp [trimR, hb]
  · have : s = [] := List.length_eq_zero_iff.1 (by omega)
    subst this; rfl
theorem trimR_between {s : List UInt8} {x y : Nat} (hx : x < y) (hy : y ≤ s.length) (hb : blankB (s.getD (y - 1) 0) = true) : trimR ((s.take (y - 1)).drop x) = trimR ((s.take y).drop x) := by
  have h1 : ((s.take y).drop x).length = y - x := by simp; omega
  have h2 : ((s.take y).drop x).getD (y - x - 1) 0 = s.getD (y - 1) 0 := by
    simp only [List.getD_eq_getElem?_getD, List.getElem?_drop, List.getElem?_take]
    rw [if_pos (by omega), show x + (y - x - 1) = y - 1 by omega]
  have h3 : ((s.take y).drop x).take (y - x - 1) = (s.take (y - 1)).drop x := by
    rw [List.take_drop, List.take_take, show x + (y - x - 1) = y - 1 by omega, Nat.min_eq_left (by omega)]
  have := trimR_snoc (s := (s.take y).drop x) (by omega) (by rw [h1, h2]; exact hb)
  rw [h1, h3] at this
  exact this
theorem trimR_stop {s : List UInt8} {x y : Nat} (hx : x ≤ y) (hy : y ≤ s.length) (hb : x < y → blankB (s.getD (y - 1) 0) = false) : trimR ((s.take y).drop x) = (s.take y).drop x := by
  refine trimR_none (fun h => ?_)
  have h1 : ((s.take y).drop x).length = y - x := by simp; omega
  rw [h1] at h ⊢
  have h2 : ((s.take y).drop x).getD (y - x - 1) 0 = s.getD (y - 1) 0 := by
    simp only [List.getD_eq_getElem?_getD, List.getElem?_drop, List.getElem?_take]
    rw [if_pos (by omega), show x + (y - x - 1) = y - 1 by omega]
  rw [h2]; exact hb (by omega)
theorem drop_getD0 {s : List UInt8} {x : Nat} : (s.drop x).getD 0 0 = s.getD x 0 := by
  simp [List.getD_eq_getElem?_getD, List.getElem?_drop]
end Go.Mdl
end
section
set_option linter.unusedVariables false
set_option linter.unusedSimpArgs false
namespace Go.Proofs.Try.Oct
open Go Go.Abs Go.Proofs Go.Mdl
def T_specBlank : Tbl := fun g E args => nilT g E args
theorem T_specBlank_ok : TblOK Try.prog T_specBlank := nilT_ok
set_option maxRecDepth 100000 in
set_option maxHeartbeats 4000000 in
theorem specBlank (c : UInt8) : SpecE Try.prog 45 [] [enc_u8 c] [] (.bool (blankB c)) := by
  refine specF0 (C := T_specBlank) (wr := false) (D := fun _ => []) (U := fun _ => none) (res := [.bool (blankB c)]) Try.Ty.mixed T_specBlank_ok Try.func45 (nA := 1) (by decide +kernel) rfl (fun _ => rfl) ?_
  simp only [Try.f45, bodyOf, rlOf]
  rw [W_V]
  simp (config := {maxSteps := 2000000}) only [T_specBlank, go_sem, seval]
  (try simp (config := {maxSteps := 2000000}) only [gimp, impB, isT, go_sem, seval])
  rfl
def tb_specBlank : List Blk → List AV → Option (List Blk × AV × Prop)
  | [], [a0] => some ([], .bool (blankB (dec_u8 a0)), argOK a0 (enc_u8 (dec_u8 a0)))
  | _, _ => none
theorem tb_specBlank_ok : ∀ E args E' res p, tb_specBlank E args = some (E', res, p) → p → SpecE Try.prog 45 E args E' res := by
  intro E args E' res p h hp
  unfold tb_specBlank at h
  split at h
  · simp only [Option.some.injEq, Prod.mk.injEq] at h
    obtain ⟨rfl, rfl, rfl⟩ := h
    exact SpecE.args (specBlank _) (.cons hp .nil)
  · cases h
def T_specTrim : Tbl := fun g E args => (addT nilT 45 Go.Proofs.Try.Oct.tb_specBlank) g E args
theorem T_specTrim_ok : TblOK Try.prog T_specTrim := (addT_ok nilT_ok (by decide +kernel) Go.Proofs.Try.Oct.tb_specBlank_ok)
set_option maxRecDepth 100000 in
set_option maxHeartbeats 4000000 in
theorem specTrim (s : List UInt8) (hs : s.length ≤ maxLen) : SpecE Try.prog 28 [] [.str s] [] (.str (trimS s)) := by
  refine specF0 (C := T_specTrim) (wr := false) (D := fun _ => []) (U := fun _ => none) (res := [.str (trimS s)]) Try.Ty.mixed T_specTrim_ok Try.func28 (nA := 1) (by decide +kernel) rfl (fun _ => rfl) ?_
  simp only [Try.f28, bodyOf, rlOf]
  rw [W_V]
  simp (config := {maxSteps := 2000000}) only [T_specTrim, Go.Proofs.Try.Oct.tb_specBlank, go_sem, seval]
  (try simp (config := {maxSteps := 2000000}) only [gimp, impB, isT, go_sem, seval])
  refine VL_inv (X := Nat) (fun x => ⟨[(0, .str s), (3, .int .i64 x), (4, .int .i64 s.length)], []⟩) (fun x => x ≤ s.length ∧ trimL (s.drop x) = trimL s) (fun x => s.length - x) 0 ?_ ?_ ?_
  · simp only [go_sem, go_sem, seval]
    try rfl
  · exact ⟨Nat.zero_le _, by simp⟩
  rintro x ⟨hx, hn⟩
  have hm : s.length ≤ 9223372036854775807 := hs
  simp (config := {maxSteps := 2000000}) only [T_specTrim, Go.Proofs.Try.Oct.tb_specBlank, go_sem, seval]
  (try simp (config := {maxSteps := 2000000}) only [gimp, impB, isT, go_sem, seval])
  refine ⟨fun _ => by omega, fun h1 h2 => ⟨by omega, x + 1, by omega, ⟨by omega, ?_⟩, by omega⟩, fun h => ?_⟩
  · rw [← hn]
    have := trimL_cons (s := s.drop x) (by simp; omega) (by rw [drop_getD0]; exact h2)
    rw [← this, List.drop_drop]
  have hstop : trimL s = s.drop x := by
    rw [← hn]
    refine trimL_none (fun hl => ?_)
    rw [drop_getD0]
    simp at hl
    simpa [show (x : Int) < s.length by omega] using h
  refine VL_inv (X := Nat) (fun y => ⟨[(0, .str s), (3, .int .i64 x), (4, .int .i64 y)], []⟩) (fun y => x ≤ y ∧ y ≤ s.length ∧ trimR ((s.take y).drop x) = trimS s) (fun y => y - x) s.length ?_ ?_ ?_
  · simp only [go_sem, go_sem, seval]
    try rfl
  · refine ⟨hx, Nat.le_refl _, ?_⟩
    rw [List.take_length, trimS, hstop]
  rintro y ⟨h1, h2, h3⟩
  simp (config := {maxSteps := 2000000}) only [T_specTrim, Go.Proofs.Try.Oct.tb_specBlank, go_sem, seval]
  (try simp (config := {maxSteps := 2000000}) only [gimp, impB, isT, go_sem, seval])
  refine ⟨⟨fun _ => by omega, fun _ => by omega⟩, ⟨fun _ => by omega, fun _ => by omega⟩, fun hlt hb => ⟨by omega, y - 1, by omega, ⟨by omega, by omega, ?_⟩, by omega⟩, fun hb => ⟨by omega, ?_⟩⟩
  · rw [trimR_between (by omega) h2 hb]; exact h3
  · rw [← h3]
    refine (trimR_stop h1 h2 (fun hlt => ?_)).symm
    simpa [show (x : Int) < y by omega] using hb
def tb_specTrim : List Blk → List AV → Option (List Blk × AV × Prop)
  | [], [.str s] => some ([], .str (trimS s), (s.length ≤ maxLen))
  | _, _ => none
theorem tb_specTrim_ok : ∀ E args E' res p, tb_specTrim E args = some (E', res, p) → p → SpecE Try.prog 28 E args E' res := by
  intro E args E' res p h hp
  unfold tb_specTrim at h
  split at h
  · simp only [Option.some.injEq, Prod.mk.injEq] at h
    obtain ⟨rfl, rfl, rfl⟩ := h
    exact (specTrim _ hp)
  · cases h
def T_specTrimR : Tbl := fun g E args => nilT g E args
theorem T_specTrimR_ok : TblOK Try.prog T_specTrimR := nilT_ok
set_option maxRecDepth 100000 in
set_option maxHeartbeats 4000000 in
theorem specTrimR (s : List UInt8) (hs : s.length ≤ maxLen) : SpecE Try.prog 39 [] [.str s] [] (.str (trimS s)) := by
  refine specF0 (C := T_specTrimR) (wr := false) (D := fun _ => []) (U := fun _ => none) (res := [.str (trimS s)]) Try.Ty.mixed T_specTrimR_ok Try.func39 (nA := 1) (by decide +kernel) rfl (fun _ => rfl) ?_
  simp only [Try.f39, bodyOf, rlOf]
  rw [W_V]
  simp (config := {maxSteps := 2000000}) only [T_specTrimR, go_sem, seval]
  (try simp (config := {maxSteps := 2000000}) only [gimp, impB, isT, go_sem, seval])
  have hm : s.length ≤ 9223372036854775807 := hs
  refine VL_inv (X := List UInt8) (fun t => ⟨[(0, .str t)], []⟩) (fun t => t.length ≤ s.length ∧ trimL t = trimL s) (fun t => t.length) s ?_ ?_ ?_
  · simp only [go_sem, go_sem, seval]
    try rfl
  · exact ⟨Nat.le_refl _, rfl⟩
  rintro t ⟨hx, hn⟩
  simp (config := {maxSteps := 2000000}) only [T_specTrimR, go_sem, seval]
  (try simp (config := {maxSteps := 2000000}) only [gimp, impB, isT, go_sem, seval])
  refine ⟨fun h _ => h, fun h1 h2 => ⟨by omega, _, rfl, ⟨by simp; omega, ?_⟩, by simp; omega⟩, fun h => ?_⟩
  · rw [← hn]
    exact trimL_cons (by omega) (by simpa [blankB] using h2)
  have hstop : trimL s = t := by
    rw [← hn]
    refine trimL_none (fun hl => ?_)
    simpa [blankB, hl] using h
  refine VL_inv (X := List UInt8) (fun t => ⟨[(0, .str t)], []⟩) (fun t => t.length ≤ s.length ∧ trimR t = trimS s) (fun t => t.length) t ?_ ?_ ?_
  · simp only [go_sem, go_sem, seval]
    try rfl
  · exact ⟨hx, by rw [trimS, hstop]⟩
  clear h hstop hn hx t
  rintro t ⟨hx, hn⟩
  simp (config := {maxSteps := 2000000}) only [T_specTrimR, go_sem, seval]
  (try simp (config := {maxSteps := 2000000}) only [gimp, impB, isT, go_sem, seval])
  refine ⟨⟨fun _ => by omega, fun _ => by omega⟩, ⟨fun _ => by omega, fun _ => by omega⟩, ⟨fun _ _ => by omega, fun _ _ => by omega⟩, ⟨fun _ _ => by omega, fun _ _ => by omega⟩,
    fun h1 h2 => ⟨by omega, by omega, _, rfl, ⟨by simp; omega, ?_⟩, by simp; omega⟩, fun h => ?_⟩
  · rw [← hn]
    exact trimR_snoc (by omega) (by simpa [blankB] using h2)
  · rw [← hn]
    refine (trimR_none (fun hl => ?_)).symm
    simpa [blankB, hl] using h
def tb_specTrimR : List Blk → List AV → Option (List Blk × AV × Prop)
  | [], [.str s] => some ([], .str (trimS s), (s.length ≤ maxLen))
  | _, _ => none
theorem tb_specTrimR_ok : ∀ E args E' res p, tb_specTrimR E args = some (E', res, p) → p → SpecE Try.prog 39 E args E' res := by
  intro E args E' res p h hp
  unfold tb_specTrimR at h
  split at h
  · simp only [Option.some.injEq, Prod.mk.injEq] at h
    obtain ⟨rfl, rfl, rfl⟩ := h
    exact (specTrimR _ hp)
  · cases h
end Go.Proofs.Try.Oct
end
section
set_option linter.unusedVariables false
set_option linter.unusedSimpArgs false
namespace Go.Mdl
open Go Go.Abs
theorem lowerB_nat (c : UInt8) : (lowerB c).toNat = if 65 ≤ c.toNat ∧ c.toNat ≤ 90 then c.toNat + 32 else c.toNat := by
  have := c.toNat_lt
  unfold lowerB
  split
  · rw [UInt8.toNat_add]
    show (c.toNat + 32) % 256 = _
    omega
  · rfl
def mixL (s : List UInt8) (x : Nat) : List UInt8 := lowerS (s.take x) ++ s.drop x
theorem mixL_len {s : List UInt8} {x : Nat} (h : x ≤ s.length) : (mixL s x).length = s.length := by simp [mixL, lowerS]; omega
theorem mixL_get {s : List UInt8} {x : Nat} (h : x ≤ s.length) : (mixL s x).getD x 0 = s.getD x 0 := by
  simp only [mixL, List.getD_eq_getElem?_getD]
  rw [List.getElem?_append_right (by simp [lowerS]; omega)]
  simp [lowerS, Nat.min_eq_left h]
theorem mixL_set {s : List UInt8} {x : Nat} (h : x < s.length) : (mixL s x).set x (lowerB (s.getD x 0)) = mixL s (x + 1) := by
  have e : (lowerS (s.take x)).length = x := by simp [lowerS]; omega
  simp only [mixL]
  rw [List.set_append_right _ _ (by omega), e, Nat.sub_self, List.drop_eq_getElem_cons h, List.set_cons_zero, take_succ_getD 0 h]
  simp only [lowerS, List.map_append, List.map_cons, List.map_nil, List.append_assoc, List.cons_append, List.nil_append]
theorem mixL_0 (s : List UInt8) : mixL s 0 = s := by simp [mixL, lowerS]
theorem mixL_all (s : List UInt8) : mixL s s.length = lowerS s := by simp [mixL]
theorem lowerS_len (s : List UInt8) : (lowerS s).length = s.length := by simp [lowerS]
theorem lowerS_take {s : List UInt8} {x : Nat} (h : x < s.length) : lowerS (s.take (x + 1)) = lowerS (s.take x) ++ [lowerB (s.getD x 0)] := by
  rw [take_succ_getD 0 h]; simp [lowerS]
theorem lowerS_getD {s : List UInt8} {x : Nat} (h : x < s.length) : (lowerS s).getD x 0 = lowerB (s.getD x 0) := by
  simp [lowerS, List.getD_eq_getElem?_getD, h]
def foldS (a b : List UInt8) : Bool := decide (lowerS a = lowerS b)
end Go.Mdl
namespace Go.Proofs.Try.Oct
open Go Go.Abs Go.Proofs Go.Mdl
def T_specLow1 : Tbl := fun g E args => nilT g E args
theorem T_specLow1_ok : TblOK Try.prog T_specLow1 := nilT_ok
set_option maxRecDepth 100000 in
set_option maxHeartbeats 4000000 in
theorem specLow1 (c : UInt8) : SpecE Try.prog 46 [] [enc_u8 c] [] (enc_u8 (lowerB c)) := by
  refine specF0 (C := T_specLow1) (wr := false) (D := fun _ => []) (U := fun _ => none) (res := [enc_u8 (lowerB c)]) Try.Ty.mixed T_specLow1_ok Try.func46 (nA := 1) (by decide +kernel) rfl (fun _ => rfl) ?_
  simp only [Try.f46, bodyOf, rlOf]
  rw [W_V]
  simp (config := {maxSteps := 2000000}) only [T_specLow1, go_sem, seval]
  (try simp (config := {maxSteps := 2000000}) only [gimp, impB, isT, go_sem, seval])
  have := c.toNat_lt
  simp only [lowerB_nat]
  (try simp only [Bool.and_eq_false_iff, Bool.or_eq_false_iff, Bool.and_eq_true, Bool.or_eq_true, decide_eq_false_iff_not, decide_eq_true_eq] at *)
  (repeat' (first | apply And.intro | intro _))
  all_goals (first | omega | ((repeat' split) <;> (first | omega | rfl | skip)))
  · unfold lowerB; rw [if_neg (by omega)]
def tb_specLow1 : List Blk → List AV → Option (List Blk × AV × Prop)
  | [], [a0] => some ([], enc_u8 (lowerB (dec_u8 a0)), argOK a0 (enc_u8 (dec_u8 a0)))
  | _, _ => none
theorem tb_specLow1_ok : ∀ E args E' res p, tb_specLow1 E args = some (E', res, p) → p → SpecE Try.prog 46 E args E' res := by
  intro E args E' res p h hp
  unfold tb_specLow1 at h
  split at h
  · simp only [Option.some.injEq, Prod.mk.injEq] at h
    obtain ⟨rfl, rfl, rfl⟩ := h
    exact SpecE.args (specLow1 _) (.cons hp .nil)
  · cases h
def T_specLower : Tbl := fun g E args => (addT nilT 46 Go.Proofs.Try.Oct.tb_specLow1) g E args
theorem T_specLower_ok : TblOK Try.prog T_specLower := (addT_ok nilT_ok (by decide +kernel) Go.Proofs.Try.Oct.tb_specLow1_ok)
set_option maxRecDepth 100000 in
set_option maxHeartbeats 4000000 in
theorem specLower (s : List UInt8) (hs : s.length ≤ maxLen) : SpecE Try.prog 29 [] [.str s] [] (.str (lowerS s)) := by
  refine specF0 (C := T_specLower) (wr := false) (D := fun _ => []) (U := fun _ => none) (res := [.str (lowerS s)]) Try.Ty.mixed T_specLower_ok Try.func29 (nA := 1) (by decide +kernel) rfl (fun _ => rfl) ?_
  simp only [Try.f29, bodyOf, rlOf]
  rw [W_V]
  simp (config := {maxSteps := 2000000}) only [T_specLower, Go.Proofs.Try.Oct.tb_specLow1, go_sem, seval]
  (try simp (config := {maxSteps := 2000000}) only [gimp, impB, isT, go_sem, seval])
  have hm : s.length ≤ 9223372036854775807 := hs
  refine ⟨hm, VL_inv (X := Nat) (fun x => ⟨[(3, .ref 128 0 s.length s.length), (8, .ref 128 0 s.length s.length), (9, .int .i64 s.length), (10, .int .i64 x)], [(128, .cells 1 false (.int .u8 0) ((mixL s x).map byteAV))]⟩) (fun x => x ≤ s.length) (fun x => s.length - x) 0 ?_ ?_ ?_⟩
  · simp only [go_sem, go_sem, seval, mixL_0]
    try rfl
  · exact Nat.zero_le _
  rintro x hx
  simp (config := {maxSteps := 2000000}) only [T_specLower, Go.Proofs.Try.Oct.tb_specLow1, go_sem, seval]
  (try simp (config := {maxSteps := 2000000}) only [gimp, impB, isT, go_sem, seval])
  have hl := mixL_len hx
  refine ⟨fun h => ?_, fun h => ?_⟩
  · have e := mixL_set (s := s) (x := x) (by omega)
    have g := mixL_get hx
    rw [Nat.zero_add]
    refine ⟨⟨by omega, by omega, by omega⟩, by omega, ⟨by omega, by omega, by omega⟩, ⟨by omega, by omega⟩, by omega, x + 1, ⟨by omega, ?_⟩, by omega, by omega⟩
    rw [g, ← e, List.map_set]; rfl
  · have : x = s.length := by omega
    subst this
    rw [mixL_all]
    refine ⟨by simp [lowerS_len], List.take_of_length_le (by simp [lowerS_len])⟩
def tb_specLower : List Blk → List AV → Option (List Blk × AV × Prop)
  | [], [.str s] => some ([], .str (lowerS s), (s.length ≤ maxLen))
  | _, _ => none
theorem tb_specLower_ok : ∀ E args E' res p, tb_specLower E args = some (E', res, p) → p → SpecE Try.prog 29 E args E' res := by
  intro E args E' res p h hp
  unfold tb_specLower at h
  split at h
  · simp only [Option.some.injEq, Prod.mk.injEq] at h
    obtain ⟨rfl, rfl, rfl⟩ := h
    exact (specLower _ hp)
  · cases h
def T_specLowerR : Tbl := fun g E args => nilT g E args
theorem T_specLowerR_ok : TblOK Try.prog T_specLowerR := nilT_ok
set_option maxRecDepth 100000 in
set_option maxHeartbeats 4000000 in
theorem specLowerR (s : List UInt8) (hs : s.length ≤ 1000000) : SpecE Try.prog 53 [] [.str s] [] (.str (lowerS s)) := by
  refine specF0 (C := T_specLowerR) (wr := false) (D := fun _ => []) (U := fun _ => none) (res := [.str (lowerS s)]) Try.Ty.mixed T_specLowerR_ok Try.func53 (nA := 1) (by decide +kernel) rfl (fun _ => rfl) ?_
  simp only [Try.f53, bodyOf, rlOf]
  rw [W_V]
  simp (config := {maxSteps := 2000000}) only [T_specLowerR, go_sem, seval]
  (try simp (config := {maxSteps := 2000000}) only [gimp, impB, isT, go_sem, seval])
  refine VL_inv (X := Nat) (fun x => ⟨[(0, .str s), (3, .ref 112 0 x x), (4, .int .i64 x)], [(112, .cells 1 false (.int .u8 0) ((lowerS (s.take x)).map byteAV))]⟩) (fun x => x ≤ s.length) (fun x => s.length - x) 0 ?_ ?_ ?_
  · simp only [go_sem, go_sem, seval]
    try rfl
  · exact Nat.zero_le _
  rintro x hx
  simp (config := {maxSteps := 2000000}) only [T_specLowerR, go_sem, seval]
  (try simp (config := {maxSteps := 2000000}) only [gimp, impB, isT, go_sem, seval])
  have hl : (lowerS (s.take x)).length = x := by simp [lowerS]; omega
  refine ⟨fun h => ?_, fun h => ?_⟩
  · have e := lowerS_take (s := s) (x := x) (by omega)
    have e2 : ∀ n : Int, n = ((lowerB (s.getD x 0)).toNat : Int) → List.map byteAV (lowerS (List.take x s)) ++ [AV.int .u8 n] = List.map byteAV (lowerS (List.take (x + 1) s)) := fun n hn => by
      rw [e, hn]; simp [byteAV]
    have := lowerB_nat (s.getD x 0)
    have := (s.getD x 0).toNat_lt
    refine ⟨⟨by omega, by omega⟩, fun h1 h2 => ⟨by omega, ⟨by omega, by omega, by omega⟩, by omega, x + 1, ⟨⟨rfl, by omega⟩, e2 _ ?_⟩, by omega, by omega⟩, fun h1 => ⟨⟨by omega, by omega, by omega⟩, by omega, x + 1, ⟨⟨rfl, by omega⟩, e2 _ ?_⟩, by omega, by omega⟩⟩
    · simp only [lowerB_nat]; rw [if_pos ⟨by omega, by omega⟩]; omega
    · simp only [Bool.and_eq_false_iff, decide_eq_false_iff_not] at h1
      simp only [lowerB_nat]; rw [if_neg (by omega)]
  · have : x = s.length := by omega
    subst this
    rw [List.take_length] at hl ⊢
    exact ⟨hl.symm, List.take_of_length_le (by omega)⟩
def tb_specLowerR : List Blk → List AV → Option (List Blk × AV × Prop)
  | [], [.str s] => some ([], .str (lowerS s), (s.length ≤ 1000000))
  | _, _ => none
theorem tb_specLowerR_ok : ∀ E args E' res p, tb_specLowerR E args = some (E', res, p) → p → SpecE Try.prog 53 E args E' res := by
  intro E args E' res p h hp
  unfold tb_specLowerR at h
  split at h
  · simp only [Option.some.injEq, Prod.mk.injEq] at h
    obtain ⟨rfl, rfl, rfl⟩ := h
    exact (specLowerR _ hp)
  · cases h
def T_specFold : Tbl := fun g E args => (addT nilT 46 Go.Proofs.Try.Oct.tb_specLow1) g E args
theorem T_specFold_ok : TblOK Try.prog T_specFold := (addT_ok nilT_ok (by decide +kernel) Go.Proofs.Try.Oct.tb_specLow1_ok)
set_option maxRecDepth 100000 in
set_option maxHeartbeats 4000000 in
theorem specFold (a b : List UInt8) (hs : a.length ≤ maxLen) : SpecE Try.prog 43 [] [.str a, .str b] [] (.bool (foldS a b)) := by
  refine specF0 (C := T_specFold) (wr := false) (D := fun _ => []) (U := fun _ => none) (res := [.bool (foldS a b)]) Try.Ty.mixed T_specFold_ok Try.func43 (nA := 2) (by decide +kernel) rfl (fun _ => rfl) ?_
  simp only [Try.f43, bodyOf, rlOf]
  rw [W_V]
  simp (config := {maxSteps := 2000000}) only [T_specFold, Go.Proofs.Try.Oct.tb_specLow1, go_sem, seval]
  (try simp (config := {maxSteps := 2000000}) only [gimp, impB, isT, go_sem, seval])
  refine ⟨fun h => ?_, fun h => ?_⟩
  · have : lowerS a ≠ lowerS b := fun e => h (by have := congrArg List.length e; simp only [lowerS_len] at this; omega)
    simp [foldS, this]
  have hl : a.length = b.length := by omega
  have hm : a.length ≤ 9223372036854775807 := hs
  refine VL_inv (X := Nat) (fun x => ⟨[(0, .str a), (1, .str b), (12, .int .i64 a.length), (13, .int .i64 x)], []⟩) (fun x => x ≤ a.length ∧ (lowerS a).take x = (lowerS b).take x) (fun x => a.length - x) 0 ?_ ?_ ?_
  · simp only [go_sem, go_sem, seval]
    try rfl
  · exact ⟨Nat.zero_le _, by simp⟩
  rintro x ⟨hx, hn⟩
  simp (config := {maxSteps := 2000000}) only [T_specFold, Go.Proofs.Try.Oct.tb_specLow1, go_sem, seval]
  (try simp (config := {maxSteps := 2000000}) only [gimp, impB, isT, go_sem, seval])
  refine ⟨fun hlt => ?_, fun hge => ?_⟩
  · have g1 := lowerS_getD (s := a) (x := x) (by omega)
    have g2 := lowerS_getD (s := b) (x := x) (by omega)
    obtain ⟨k1, k2⟩ := same_step (a := lowerS a) (b := lowerS b) (x := x) 0 (by simp only [lowerS_len]; omega) (by rw [lowerS_len]; omega) hn
    rw [g1, g2] at k1 k2
    refine ⟨by omega, by omega, fun hne => ?_, fun he => ⟨by omega, x + 1, by omega, ⟨by omega, k1 he⟩, by omega⟩⟩
    simp [foldS, k2 hne]
  · have : x = a.length := by omega
    subst this
    rw [List.take_of_length_le (by simp [lowerS_len]), List.take_of_length_le (by simp [lowerS_len]; omega)] at hn
    simp [foldS, hn]
def tb_specFold : List Blk → List AV → Option (List Blk × AV × Prop)
  | [], [.str a, .str b] => some ([], .bool (foldS a b), (a.length ≤ maxLen))
  | _, _ => none
theorem tb_specFold_ok : ∀ E args E' res p, tb_specFold E args = some (E', res, p) → p → SpecE Try.prog 43 E args E' res := by
  intro E args E' res p h hp
  unfold tb_specFold at h
  split at h
  · simp only [Option.some.injEq, Prod.mk.injEq] at h
    obtain ⟨rfl, rfl, rfl⟩ := h
    exact (specFold _ _ hp)
  · cases h
end Go.Proofs.Try.Oct
end
section
set_option linter.unusedVariables false
set_option linter.unusedSimpArgs false
namespace Go.Mdl
open Go Go.Abs
theorem PostE.same {w : World} {ok : Nat → Nat → Prop} {L : Nat → Option Blk} {φ : Nat → Option Nat} {res : AV} {v : Value} (hh : HeapOK w ok L φ) (hv : R w ok L φ res v) : PostE w ok L φ w ok φ L res v :=
  ⟨Fr.refl _ _, hh, hv, Keeps.refl _ _ _ _, fun i b h => .inl ⟨i, h⟩, fun b o h => .inl h⟩
end Go.Mdl
end
section
set_option linter.unusedVariables false
set_option linter.unusedSimpArgs false
namespace Go.Mdl
open Go Go.Abs
def idxP {α : Type} (p : α → Bool) (l : List α) : Int := if l.any p = true then (l.findIdx p : Int) else -1
theorem idxP_ge {α : Type} (p : α → Bool) (l : List α) : (0 ≤ idxP p l) ↔ l.any p = true := by
  unfold idxP
  split <;> rename_i h
  · simp [h]
  · simp [h]
theorem idxP_hit {α : Type} {p : α → Bool} {l : List α} {x : Nat} (d : α) (hx : x < l.length) (hn : (l.take x).any p = false) (hp : p (l.getD x d) = true) : idxP p l = x := by
  have hg := getD_of_lt (s := l) (d := d) hx
  have ha : l.any p = true := List.any_eq_true.2 ⟨_, List.mem_of_getElem? hg, hp⟩
  unfold idxP
  rw [if_pos ha]
  congr 1
  rw [List.findIdx_eq hx]
  have he : l[x] = l.getD x d := by rw [List.getElem?_eq_getElem hx] at hg; exact Option.some.inj hg
  refine ⟨by rw [he]; exact hp, fun j hj => ?_⟩
  rw [← Bool.not_eq_true]
  intro h
  have : (l.take x).any p = true := List.any_eq_true.2 ⟨l[j], by
    rw [List.mem_take_iff_getElem]
    exact ⟨j, by omega, rfl⟩, h⟩
  rw [hn] at this; cases this
theorem idxP_none {α : Type} {p : α → Bool} {l : List α} (hn : l.any p = false) : idxP p l = -1 := by simp [idxP, hn]
theorem any_take_succ {α : Type} {p : α → Bool} {l : List α} {k : Nat} (d : α) (h : k < l.length) (hn : (l.take k).any p = false) : (l.take (k + 1)).any p = p (l.getD k d) := by
  rw [take_succ_getD d h, List.any_append, hn]; simp
structure BoxOK (v : List AV) : Prop where
  pids : pidsL v = []
  ren : ∀ σ, v.map (ren σ) = v
  ref : oneRef v = none
  cells : pureEl v = true
theorem boxStr (s : List UInt8) : BoxOK [.str s] := ⟨rfl, fun _ => rfl, rfl, rfl⟩
def enc_fld (p : List UInt8 × List UInt8) : AV := .agg [.str p.1, .str p.2]
def dec_fld : AV → List UInt8 × List UInt8
  | .agg [.str a, .str b] => (a, b)
  | _ => ([], [])
theorem boxFld (p : List UInt8 × List UInt8) : BoxOK [.agg [.str p.1, .str p.2]] := ⟨rfl, fun _ => rfl, rfl, rfl⟩
theorem getD_map_fld (l : List (List UInt8 × List UInt8)) (n : Nat) : (l.map enc_fld).getD n (.agg [.str [], .str []]) = enc_fld (l.getD n ([], [])) := by
  simp only [List.getD_eq_getElem?_getD, List.getElem?_map]; cases l[n]? <;> rfl
def enc_flds (l : List (List UInt8 × List UInt8)) : AV := .list 2 (l.map enc_fld)
def dec_flds (a : AV) : List (List UInt8 × List UInt8) := (listOf a).map dec_fld
theorem map_fld (l : List (List UInt8 × List UInt8)) : (l.map enc_fld).map dec_fld = l := by simp [List.map_map, Function.comp_def, enc_fld, dec_fld]
theorem pure_fld (p : List UInt8 × List UInt8) : pureBL (enc_fld p).cells = true := rfl
theorem pids_fld (p : List UInt8 × List UInt8) : pids (enc_fld p) = [] := rfl
theorem ren_fld (σ : Nat → Nat) (p : List UInt8 × List UInt8) : ren σ (enc_fld p) = enc_fld p := rfl
theorem ref_fld (p : List UInt8 × List UInt8) : refOf (enc_fld p) = none := rfl
theorem cells_fld (p : List UInt8 × List UInt8) : (enc_fld p).cells = [.str p.1, .str p.2] := rfl
theorem pureEl_fld (l : List (List UInt8 × List UInt8)) : pureEl (l.map enc_fld) = true := pureEl_map enc_fld l (fun _ => rfl)
theorem oneRef_fld (l : List (List UInt8 × List UInt8)) : oneRef (l.map enc_fld) = none := oneRef_map (fun _ => rfl) l
theorem pidsL_fld (l : List (List UInt8 × List UInt8)) : pidsL (l.map enc_fld) = [] := pidsL_map (fun _ => rfl) l
theorem renL_fld (σ : Nat → Nat) (l : List (List UInt8 × List UInt8)) : (l.map enc_fld).map (ren σ) = l.map enc_fld := ren_map (fun _ => rfl) l
attribute [go_sem] enc_fld pureEl_fld oneRef_fld pidsL_fld renL_fld cells_fld getD_map_fld map_fld pure_fld pids_fld ren_fld ref_fld enc_flds dec_flds
end Go.Mdl
end
section
set_option linter.unusedVariables false
set_option linter.unusedSimpArgs false
namespace Go.Mdl
open Go Go.Abs
structure Scan where
  q : Bool
  s : Bool
  d : Nat
def Scan.closed (x : Scan) : Bool := !x.q && (!x.s && decide (x.d = 0))
def Scan.see (x : Scan) (c : UInt8) : Scan :=
  if x.s = true then ⟨x.q, false, x.d⟩
  else if c = 92 then ⟨x.q, x.q || decide (0 < x.d), x.d⟩
  else if x.q = true then ⟨!decide (c = 34), x.s, x.d⟩
  else if c = 40 then ⟨x.q, x.s, x.d + 1⟩
  else if 0 < x.d ∧ c = 41 then ⟨x.q, x.s, x.d - 1⟩
  else if x.d = 0 ∧ c = 34 then ⟨true, x.s, x.d⟩
  else x
def Scan.run (x : Scan) (l : List UInt8) : Scan := l.foldl Scan.see x
def joinS : List (List UInt8) → List UInt8
  | [] => []
  | [a] => a
  | a :: b :: r => a ++ (44 :: 32 :: joinS (b :: r))
theorem joinS_snoc (e : List UInt8) : ∀ l : List (List UInt8), joinS (l ++ [e]) = if l = [] then e else joinS l ++ 44 :: 32 :: e
  | [] => rfl
  | [a] => rfl
  | a :: b :: r => by
    have ih := joinS_snoc e (b :: r)
    rw [if_neg (by simp)] at ih ⊢
    show a ++ (44 :: 32 :: joinS ((b :: r) ++ [e])) = _
    rw [ih]; simp [joinS]
theorem joinS_len {m : Nat} : ∀ {l : List (List UInt8)}, (∀ e ∈ l, e.length ≤ m) → (joinS l).length ≤ l.length * (m + 2)
  | [], _ => by simp [joinS]
  | [a], h => by have := h a (by simp); simp [joinS]; omega
  | a :: b :: r, h => by
    have h1 := joinS_len (l := b :: r) (fun e he => h e (List.mem_cons_of_mem _ he))
    have h2 := h a (by simp)
    simp only [joinS, List.length_append, List.length_cons] at h1 ⊢
    rw [Nat.add_mul (r.length + 1) 1 (m + 2)]
    omega
theorem getD_len {n m : Nat} {l : List (List UInt8)} (h : ∀ e ∈ l, e.length ≤ m) : (l.getD n []).length ≤ m := by
  rcases Nat.lt_or_ge n l.length with h1 | h1
  · have := getD_of_lt (s := l) (d := []) h1
    exact h _ (List.mem_of_getElem? this)
  · rw [List.getD_eq_getElem?_getD, List.getElem?_eq_none h1]; simp
theorem trimL_len (s : List UInt8) : (trimL s).length ≤ s.length := (List.dropWhile_sublist _).length_le
theorem trimS_len (s : List UInt8) : (trimS s).length ≤ s.length := by
  have h1 := trimL_len s
  have h2 : (trimR (trimL s)).length ≤ (trimL s).length := by
    have := (List.dropWhile_sublist blankB (l := (trimL s).reverse)).length_le
    simpa [trimR] using this
  exact Nat.le_trans h2 h1
end Go.Mdl
end
section
set_option linter.unusedVariables false
set_option linter.unusedSimpArgs false
namespace Go.Proofs.Try.Slc
open Go Go.Abs Go.Proofs Go.Mdl
def tbP_S (sz : Nat) (z : AV) (v : List AV) (p : List UInt8 → Bool) (q : List UInt8 → Prop) : List Blk → List AV → Option (List Blk × AV × Prop)
  | [.cells sz' false z' v'], [a, .ptr 0 0 0 1] => some ([.cells sz' false z' v'], .bool (p (toStr a)), sz' = sz ∧ z' = z ∧ v' = v ∧ a = AV.str (toStr a) ∧ q (toStr a))
  | _, _ => none
theorem tbP_S_ok {f : FuncId} {sz : Nat} {z : AV} {v : List AV} {p : List UInt8 → Bool} {q : List UInt8 → Prop} (hs : ∀ x, q x → SpecE Try.prog f [.cells sz false z v] [AV.str x, .ptr 0 0 0 1] [.cells sz false z v] (.bool (p x))) :
    ∀ E args E' res q', tbP_S sz z v p q E args = some (E', res, q') → q' → SpecE Try.prog f E args E' res := by
  intro E args E' res q' h hq
  unfold tbP_S at h
  split at h
  · rename_i sz' z' v' a
    simp only [Option.some.injEq, Prod.mk.injEq] at h
    obtain ⟨rfl, rfl, rfl⟩ := h
    obtain ⟨rfl, rfl, rfl, h1, h2⟩ := hq
    have := hs _ h2
    rw [← h1] at this; exact this
  · cases h
theorem idx_S {f : FuncId} (hy : ¬ f = 1000000) {sz : Nat} {z : AV} {v : List AV} (hv : BoxOK v) (hz : ∀ σ, ren σ z = z) {p : List UInt8 → Bool} {q : List UInt8 → Prop} (hs : ∀ x, q x → SpecE Try.prog f [.cells sz false z v] [AV.str x, .ptr 0 0 0 1] [.cells sz false z v] (.bool (p x)))
    (l : List (List UInt8)) (hq : ∀ x ∈ l, q x) (hl : l.length ≤ maxLen) :
    SpecE Try.prog 63 [.cells sz false z v] [.list 1 (l.map AV.str), .clo f 0 [.ptr 0 0 0 1]] [.cells sz false z v] (.int .i64 (idxP p l)) := by
  refine specFE (C := addT nilT f (tbP_S sz z v p q)) (wr := false) (D := fun _ => []) (U := fun _ => none) (E := [.cells sz false z v]) (E' := [.cells sz false z v]) (res := [.int .i64 (idxP p l)]) [] Try.Ty.mixed (addT_ok nilT_ok (by simp) (tbP_S_ok hs)) Try.func63 (nE := 1) (nA := 2) (by decide +kernel) rfl rfl ?_
  simp only [Try.f63, bodyOf, rlOf]
  rw [W_V]
  have hm : l.length ≤ 9223372036854775807 := hl
  obtain ⟨v1, v2, v3, v4⟩ := hv
  have v5 : ∀ L, contOK L v = True := fun L => contOK_pure v4
  simp only [tbP_S, hy, hz, v1, v2, v3, v5, go_sem, go_sem, seval, true_and]
  refine VL_inv (X := Nat) (fun k => ⟨[(0, .list 1 (l.map AV.str)), (1, .clo f 0 [.ptr 0 0 0 1]), (7, .int .i64 l.length), (8, .int .i64 k)], [(0, .cells sz false z v)]⟩) (fun k => k ≤ l.length ∧ (l.take k).any p = false) (fun k => l.length - k) 0 ?_ ?_ ?_
  · simp only [tbP_S, hy, hz, v1, v2, v3, v5, go_sem, go_sem, seval]
    try rfl
  · exact ⟨Nat.zero_le _, by simp⟩
  rintro k ⟨hk, hn⟩
  simp only [tbP_S, hy, hz, v1, v2, v3, v5, go_sem, go_sem, seval, true_and, toStr]
  refine ⟨fun hlt => ⟨by omega, hq _ (List.mem_of_getElem? (getD_of_lt (s := l) (i := k) (d := []) (by omega))), fun hp => (idxP_hit [] (by omega) hn hp).symm, fun hp => ⟨by omega, k + 1, by omega, ⟨by omega, by rw [any_take_succ [] (by omega) hn]; exact hp⟩, by omega⟩⟩, fun hge => ?_⟩
  have : k = l.length := by omega
  subst this
  rw [List.take_length] at hn
  exact (idxP_none hn).symm
theorem idxO_S {f : FuncId} (hy : ¬ f = 1000000) {sz : Nat} {z : AV} {v : List AV} (hv : BoxOK v) (hz : ∀ σ, ren σ z = z) {p : List UInt8 → Bool} {q : List UInt8 → Prop} (hs : ∀ x, q x → SpecE Try.prog f [.cells sz false z v] [AV.str x, .ptr 0 0 0 1] [.cells sz false z v] (.bool (p x)))
    (l : List (List UInt8)) (hq : ∀ x ∈ l, q x) (hl : l.length ≤ maxLen) (m1 m2 : Nat) (hm1 : m1 = l.length) (hm2 : m2 = l.length) :
    SpecE Try.prog 63 [.cells 1 false (AV.str []) (l.map AV.str), .cells sz false z v] [.ref 0 0 m1 m2, .clo f 0 [.ptr 1 0 0 1]] [.cells 1 false (AV.str []) (l.map AV.str), .cells sz false z v] (.int .i64 (idxP p l)) := by
  subst hm1
  subst hm2
  refine specFE (C := addT nilT f (tbP_S sz z v p q)) (wr := false) (D := fun _ => []) (U := fun _ => none) (E := [.cells 1 false (AV.str []) (l.map AV.str), .cells sz false z v]) (E' := [.cells 1 false (AV.str []) (l.map AV.str), .cells sz false z v]) (res := [.int .i64 (idxP p l)]) [] Try.Ty.mixed (addT_ok nilT_ok (by simp) (tbP_S_ok hs)) Try.func63 (nE := 2) (nA := 2) (by decide +kernel) rfl rfl ?_
  simp only [Try.f63, bodyOf, rlOf]
  rw [W_V]
  have hm : l.length ≤ 9223372036854775807 := hl
  obtain ⟨v1, v2, v3, v4⟩ := hv
  have v5 : ∀ L, contOK L v = True := fun L => contOK_pure v4
  simp only [tbP_S, hy, hz, v1, v2, v3, v5, go_sem, go_sem, seval, true_and]
  refine VL_inv (X := Nat) (fun k => ⟨[(0, .ref 0 0 l.length l.length), (1, .clo f 0 [.ptr 1 0 0 1]), (7, .int .i64 l.length), (8, .int .i64 k)], [(0, .cells 1 false (AV.str []) (l.map AV.str)), (1, .cells sz false z v)]⟩) (fun k => k ≤ l.length ∧ (l.take k).any p = false) (fun k => l.length - k) 0 ?_ ?_ ?_
  · simp only [tbP_S, hy, hz, v1, v2, v3, v5, go_sem, go_sem, seval]
    try rfl
  · exact ⟨Nat.zero_le _, by simp⟩
  rintro k ⟨hk, hn⟩
  simp only [tbP_S, hy, hz, v1, v2, v3, v5, go_sem, go_sem, seval, true_and, toStr]
  refine ⟨fun hlt => ⟨by omega, by omega, ?_, fun hp => ?_, fun hp => ⟨by omega, k + 1, by omega, ⟨by omega, ?_⟩, by omega⟩⟩, fun hge => ?_⟩
  · rw [Nat.zero_add]; exact hq _ (List.mem_of_getElem? (getD_of_lt (s := l) (i := k) (d := []) (by omega)))
  · rw [Nat.zero_add] at hp; exact (idxP_hit [] (by omega) hn hp).symm
  · rw [Nat.zero_add] at hp; rw [any_take_succ [] (by omega) hn]; exact hp
  · have : k = l.length := by omega
    subst this
    rw [List.take_length] at hn
    exact (idxP_none hn).symm
def tbI_S (sz : Nat) (z : AV) (v : List AV) (f : FuncId) (p : List UInt8 → Bool) (l : List (List UInt8)) : List Blk → List AV → Option (List Blk × AV × Prop)
  | [.cells sz' false z' v'], [.list n l', .clo f' 0 [.ptr 0 0 0 1]] => some ([.cells sz' false z' v'], .int .i64 (idxP p l), sz' = sz ∧ z' = z ∧ v' = v ∧ n = 1 ∧ l' = l.map AV.str ∧ f' = f)
  | _, _ => none
theorem has_S {f : FuncId} (hy : ¬ f = 1000000) {sz : Nat} {z : AV} {v : List AV} (hv : BoxOK v) (hz : ∀ σ, ren σ z = z) {p : List UInt8 → Bool} {q : List UInt8 → Prop} (hs : ∀ x, q x → SpecE Try.prog f [.cells sz false z v] [AV.str x, .ptr 0 0 0 1] [.cells sz false z v] (.bool (p x)))
    (l : List (List UInt8)) (hq : ∀ x ∈ l, q x) (hl : l.length ≤ maxLen) :
    SpecE Try.prog 48 [.cells sz false z v] [.list 1 (l.map AV.str), .clo f 0 [.ptr 0 0 0 1]] [.cells sz false z v] (.bool (l.any p)) := by
  have ht : ∀ E args E' res q', tbI_S sz z v f p l E args = some (E', res, q') → q' → SpecE Try.prog 63 E args E' res := by
    intro E args E' res q' h hq'
    unfold tbI_S at h
    split at h
    · simp only [Option.some.injEq, Prod.mk.injEq] at h
      obtain ⟨rfl, rfl, rfl⟩ := h
      obtain ⟨rfl, rfl, rfl, rfl, rfl, rfl⟩ := hq'
      exact idx_S hy hv hz hs l hq hl
    · cases h
  refine specFE (C := addT nilT 63 (tbI_S sz z v f p l)) (wr := false) (D := fun _ => []) (U := fun _ => none) (E := [.cells sz false z v]) (E' := [.cells sz false z v]) (res := [.bool (l.any p)]) [] Try.Ty.mixed (addT_ok nilT_ok (by decide +kernel) ht) Try.func48 (nE := 1) (nA := 2) (by decide +kernel) rfl rfl ?_
  simp only [Try.f48, bodyOf, rlOf]
  rw [W_V]
  obtain ⟨v1, v2, v3, v4⟩ := hv
  have v5 : ∀ L, contOK L v = True := fun L => contOK_pure v4
  simp only [tbI_S, hz, v1, v2, v3, v5, go_sem, go_sem, seval, true_and]
  rw [Bool.eq_iff_iff, decide_eq_true_eq, idxP_ge]
end Go.Proofs.Try.Slc
end
section
set_option linter.unusedVariables false
set_option linter.unusedSimpArgs false
namespace Go.Mdl
open Go Go.Abs
end Go.Mdl
namespace Go.Proofs.Try.Lists
open Go Go.Abs Go.Proofs Go.Mdl
def T_specJoinR : Tbl := fun g E args => nilT g E args
theorem T_specJoinR_ok : TblOK Try.prog T_specJoinR := nilT_ok
set_option maxRecDepth 100000 in
set_option maxHeartbeats 4000000 in
theorem specJoinR (l : List (List UInt8)) (hn : l.length ≤ 1000) (hl : ∀ x ∈ l, x.length ≤ 1000000) : SpecE Try.prog 37 [] [enc_strs l] [] (.str (joinS l)) := by
  refine specF0 (C := T_specJoinR) (wr := false) (D := fun _ => []) (U := fun _ => none) (res := [.str (joinS l)]) Try.Ty.mixed T_specJoinR_ok Try.func37 (nA := 1) (by decide +kernel) rfl (fun _ => rfl) ?_
  simp only [Try.f37, bodyOf, rlOf]
  rw [W_V]
  simp (config := {maxSteps := 2000000}) only [T_specJoinR, go_sem, seval]
  (try simp (config := {maxSteps := 2000000}) only [gimp, impB, isT, go_sem, seval])
  refine VL_inv (X := Nat) (fun k => ⟨[(0, enc_strs l), (3, .str (joinS (l.take k))), (4, .int .i64 k)], []⟩) (fun k => k ≤ l.length) (fun k => l.length - k) 0 ?_ ?_ ?_
  · simp only [go_sem, go_sem, seval]
    try rfl
  · exact Nat.zero_le _
  rintro k hk
  simp (config := {maxSteps := 2000000}) only [T_specJoinR, go_sem, seval]
  (try simp (config := {maxSteps := 2000000}) only [gimp, impB, isT, go_sem, seval])
  have hb : (l.getD k []).length ≤ 1000000 := getD_len hl
  have hj : (joinS (l.take k)).length ≤ (l.take k).length * (1000000 + 2) := joinS_len (fun e he => hl e (List.mem_of_mem_take he))
  have hlt : (l.take k).length = k := by rw [List.length_take]; omega
  have hk2 : (joinS (l.take k)).length ≤ 1000 * 1000002 := Nat.le_trans hj (by rw [hlt]; exact Nat.mul_le_mul (by omega) (Nat.le_refl _))
  have hjl : (joinS (l.take k) ++ [44, 32]).length = (joinS (l.take k)).length + 2 := by simp
  (repeat' (first | refine And.intro ?_ ?_ | intro _))
  all_goals (try first | omega | assumption | contradiction)
  · rename_i h1 h2
    refine ⟨k + 1, ⟨?_, by omega⟩, by omega, by omega⟩
    rw [take_succ_getD [] (by omega), joinS_snoc, if_neg (fun e => by rw [e] at hlt; simp at hlt; omega)]
  · rename_i h1 h2
    refine ⟨k + 1, ⟨?_, by omega⟩, by omega, by omega⟩
    have : k = 0 := by omega
    subst this
    rw [take_succ_getD [] (by omega), joinS_snoc, if_pos (by simp)]; rfl
  · rw [List.take_of_length_le (by omega)]
def tb_specJoinR : List Blk → List AV → Option (List Blk × AV × Prop)
  | [], [a0] => some ([], .str (joinS (dec_strs a0)), ((dec_strs a0).length ≤ 1000) ∧ (∀ x ∈ (dec_strs a0), x.length ≤ 1000000) ∧ argOK a0 (enc_strs (dec_strs a0)))
  | _, _ => none
theorem tb_specJoinR_ok : ∀ E args E' res p, tb_specJoinR E args = some (E', res, p) → p → SpecE Try.prog 37 E args E' res := by
  intro E args E' res p h hp
  unfold tb_specJoinR at h
  split at h
  · simp only [Option.some.injEq, Prod.mk.injEq] at h
    obtain ⟨rfl, rfl, rfl⟩ := h
    exact SpecE.args (specJoinR _ hp.1 hp.2.1) (.cons hp.2.2 .nil)
  · cases h
end Go.Proofs.Try.Lists
end
section
set_option linter.unusedVariables false
set_option linter.unusedSimpArgs false
namespace Go.Mdl
open Go Go.Abs
abbrev Fld := List UInt8 × List UInt8
def shortF (f : Fld) : Bool := decide (f.1.length ≤ 100) && decide (f.2.length ≤ 300)
def fewF (l : List Fld) : Bool := decide (l.length ≤ 40) && l.all shortF
theorem fewF_len {l : List Fld} (h : fewF l = true) : l.length ≤ 40 ∧ ∀ f ∈ l, f.1.length ≤ 100 ∧ f.2.length ≤ 300 := by
  simp only [fewF, Bool.and_eq_true, decide_eq_true_eq, List.all_eq_true] at h
  refine ⟨h.1, fun f hf => ?_⟩
  have := h.2 f hf
  simpa only [shortF, Bool.and_eq_true, decide_eq_true_eq] using this
end Go.Mdl
namespace Go.Proofs.Try.HdrR
open Go Go.Abs Go.Proofs Go.Mdl
def T_specFew : Tbl := fun g E args => nilT g E args
theorem T_specFew_ok : TblOK Try.prog T_specFew := nilT_ok
set_option maxRecDepth 100000 in
set_option maxHeartbeats 4000000 in
theorem specFew (l : List Fld) (h : l.length ≤ maxLen) : SpecE Try.prog 9 [] [enc_flds l] [] (.bool (fewF l)) := by
  refine specF0 (C := T_specFew) (wr := false) (D := fun _ => []) (U := fun _ => none) (res := [.bool (fewF l)]) Try.Ty.mixed T_specFew_ok Try.func9 (nA := 1) (by decide +kernel) rfl (fun _ => rfl) ?_
  simp only [Try.f9, bodyOf, rlOf]
  rw [W_V]
  simp (config := {maxSteps := 2000000}) only [T_specFew, go_sem, seval]
  (try simp (config := {maxSteps := 2000000}) only [gimp, impB, isT, go_sem, seval])
  refine ⟨fun h => by simp [fewF]; omega, fun h40 => ?_⟩
  refine VL_inv (X := Nat) (fun k => ⟨[(8, enc_flds l), (9, .int .i64 l.length), (10, .int .i64 k)], []⟩) (fun k => k ≤ l.length ∧ (l.take k).all shortF = true) (fun k => l.length - k) 0 ?_ ?_ ?_
  · simp only [go_sem, go_sem, seval]
    try rfl
  · exact ⟨Nat.zero_le _, by simp⟩
  rintro k ⟨hk, hn⟩
  simp (config := {maxSteps := 2000000}) only [T_specFew, go_sem, seval]
  (try simp (config := {maxSteps := 2000000}) only [gimp, impB, isT, go_sem, seval])
  have hmem : k < l.length → l.getD k ([], []) ∈ l := fun h => List.mem_of_getElem? (getD_of_lt (s := l) (d := ([], [])) h)
  (repeat' (first | refine And.intro ?_ ?_ | intro _))
  all_goals (try first | omega | assumption | contradiction)
  · rename_i h1 h2
    have hs : shortF (l.getD k ([], [])) = false := by
      simp only [shortF, Bool.and_eq_false_iff, decide_eq_false_iff_not]; omega
    have : l.all shortF = false := List.all_eq_false.2 ⟨_, hmem (by omega), by rw [hs]; simp⟩
    simp [fewF, this]
  · rename_i h1 h2 h3
    refine ⟨k + 1, by omega, ⟨by omega, ?_⟩, by omega⟩
    rw [take_succ_getD ([], []) (by omega), List.all_append, hn]
    simp only [List.all_cons, List.all_nil, Bool.and_true, Bool.true_and, shortF, Bool.and_eq_true, decide_eq_true_eq]
    omega
  · have : k = l.length := by omega
    subst this
    rw [List.take_length] at hn
    simp [fewF, hn]; omega
def tb_specFew : List Blk → List AV → Option (List Blk × AV × Prop)
  | [], [a0] => some ([], .bool (fewF (dec_flds a0)), ((dec_flds a0).length ≤ maxLen) ∧ argOK a0 (enc_flds (dec_flds a0)))
  | _, _ => none
theorem tb_specFew_ok : ∀ E args E' res p, tb_specFew E args = some (E', res, p) → p → SpecE Try.prog 9 E args E' res := by
  intro E args E' res p h hp
  unfold tb_specFew at h
  split at h
  · simp only [Option.some.injEq, Prod.mk.injEq] at h
    obtain ⟨rfl, rfl, rfl⟩ := h
    exact SpecE.args (specFew _ hp.1) (.cons hp.2 .nil)
  · cases h
end Go.Proofs.Try.HdrR
end
section
set_option linter.unusedVariables false
set_option linter.unusedSimpArgs false
namespace Go.Mdl
open Go Go.Abs
def fldLine (n v : List UInt8) : List UInt8 := if v = [] then n ++ [58] else n ++ (58 :: 32 :: v)
end Go.Mdl
end
section
set_option linter.unusedVariables false
set_option linter.unusedSimpArgs false
namespace Go.Mdl
open Go Go.Abs
def sign16 : List UInt8 := [48, 49, 50, 51, 52, 53, 54, 55, 56, 57, 97, 98, 99, 100, 101, 102]
def signN (n : Nat) : UInt8 := sign16.getD n 0
def digsF (b : Nat) : Nat → Nat → List UInt8
  | 0, _ => []
  | f + 1, n => if n < b then [signN n] else digsF b f (n / b) ++ [signN (n % b)]
def digs (b n : Nat) : List UInt8 := digsF b 70 n
theorem half_lt {b n f : Nat} (hb : 2 ≤ b) (h : n < 2 ^ (f + 1)) : n / b < 2 ^ f := by
  have h1 : n / b ≤ n / 2 := Nat.div_le_div_left hb (by omega)
  rw [Nat.pow_succ] at h
  omega
theorem digsF_eq {b : Nat} (hb : 2 ≤ b) : ∀ (f f' n : Nat), n < 2 ^ f → n < 2 ^ f' → 1 ≤ f → 1 ≤ f' → digsF b f n = digsF b f' n
  | 0, _, n, _, _, hf, _ => by omega
  | _, 0, n, _, _, _, hf => by omega
  | f + 1, f' + 1, n, h, h', _, _ => by
    simp only [digsF]
    by_cases e : n < b
    · rw [if_pos e, if_pos e]
    · rw [if_neg e, if_neg e]
      have hp : 1 ≤ n / b := (Nat.le_div_iff_mul_le (by omega)).2 (by omega)
      have g := half_lt hb h
      have g' := half_lt hb h'
      have f1 : 1 ≤ f := by
        cases f with
        | zero => simp at g; omega
        | succ f => omega
      have f2 : 1 ≤ f' := by
        cases f' with
        | zero => simp at g'; omega
        | succ f' => omega
      rw [digsF_eq hb f f' (n / b) g g' f1 f2]
theorem digs_small {b n : Nat} (h : n < b) : digs b n = [signN n] := by simp only [digs, digsF, if_pos h]
theorem digs_step {b n : Nat} (hb : 2 ≤ b) (hn : n < 18446744073709551616) (h : b ≤ n) : digs b n = digs b (n / b) ++ [signN (n % b)] := by
  have h70 : n < 2 ^ 70 := by have : (18446744073709551616 : Nat) ≤ 2 ^ 70 := by decide
                              omega
  have hp : 1 ≤ n / b := (Nat.le_div_iff_mul_le (by omega)).2 (by omega)
  show digsF b 70 n = _
  rw [show digsF b 70 n = if n < b then [signN n] else digsF b 69 (n / b) ++ [signN (n % b)] from rfl, if_neg (by omega)]
  congr 1
  have h2 : n / b ≤ n := Nat.div_le_self _ _
  exact digsF_eq hb 69 70 _ (half_lt hb h70) (by omega) (by omega) (by omega)
theorem digsF_len {b : Nat} : ∀ f n, (digsF b f n).length ≤ f
  | 0, _ => by simp [digsF]
  | f + 1, n => by
    have := digsF_len (b := b) f (n / b)
    simp only [digsF]; split <;> simp <;> omega
theorem digs_len (b n : Nat) : (digs b n).length ≤ 70 := digsF_len 70 n
def textI (n : Int) : List UInt8 := if n < 0 then 45 :: digs 10 n.natAbs else digs 10 n.natAbs
def padS (n wide : Int) : List UInt8 := if n < 0 then textI n else List.replicate (max 0 (min wide 20 - ((textI n).length : Int))).toNat 48 ++ textI n
theorem textI_len (n : Int) : (textI n).length ≤ 71 := by
  have := digs_len 10 n.natAbs
  unfold textI; split <;> simp <;> omega
theorem drop_set_at {α : Type} {l : List α} {i : Nat} (h : i < l.length) (v : α) : (l.set i v).drop i = v :: l.drop (i + 1) := by
  rw [List.set_eq_take_append_cons_drop, if_pos h, List.drop_left' (by simp; omega)]
theorem max_abs (d : Int) : max d (0 - d) = (d.natAbs : Int) := by omega
theorem sign_slice : ∀ k, k < 16 → List.drop k (List.take (k + 1) sign16) = [signN k] := by decide
theorem sign_slice' (k : Nat) (h : k < 16) : List.drop k (48 :: List.take k [49, 50, 51, 52, 53, 54, 55, 56, 57, 97, 98, 99, 100, 101, 102]) = [signN k] := by
  have := sign_slice k h
  simpa only [sign16, List.take_succ_cons] using this
theorem tmod_nat {b : Int} (hb : b = 10 ∨ b = 16) (m : Nat) : (m : Int).tmod b = ((m % b.toNat : Nat) : Int) ∧ (m : Int).tdiv b = ((m / b.toNat : Nat) : Int) := by
  rw [Int.tmod_eq_emod_of_nonneg (by omega), Int.tdiv_eq_ediv_of_nonneg (by omega)]
  rcases hb with rfl | rfl
  · exact ⟨by simp, by simp⟩
  · exact ⟨by simp, by simp⟩
end Go.Mdl
end
section
set_option linter.unusedVariables false
set_option linter.unusedSimpArgs false
namespace Go.Proofs.Try.Dig
open Go Go.Abs Go.Proofs Go.Mdl
def T_specFigures : Tbl := fun g E args => nilT g E args
theorem T_specFigures_ok : TblOK Try.prog T_specFigures := nilT_ok
set_option maxRecDepth 100000 in
set_option maxHeartbeats 4000000 in
theorem specFigures (n b : Int) (hn : inR .i64 n) (hb : b = 10 ∨ b = 16) : SpecE Try.prog 54 [] [.int .i64 n, .int .i64 b] [] (.str (digs b.toNat n.natAbs)) := by
  refine specF0 (C := T_specFigures) (wr := false) (D := fun _ => []) (U := fun _ => none) (res := [.str (digs b.toNat n.natAbs)]) Try.Ty.mixed T_specFigures_ok Try.func54 (nA := 2) (by decide +kernel) rfl (fun _ => rfl) ?_
  simp only [Try.f54, bodyOf, rlOf]
  rw [W_V]
  simp (config := {maxSteps := 2000000}) only [T_specFigures, go_sem, seval]
  (try simp (config := {maxSteps := 2000000}) only [gimp, impB, isT, go_sem, seval])
  refine VL_inv (X := Int × Nat × List UInt8) (fun x => ⟨[(0, .int .i64 x.1), (1, .int .i64 b), (5, .ptr 96 0 0 64), (6, .int .i64 x.2.1)], [(96, .cells 1 false (.int .u8 0) (x.2.2.map byteAV))]⟩)
    (fun x => x.2.2.length = 64 ∧ x.2.1 ≤ 64 ∧ x.1.natAbs < 2 ^ x.2.1 ∧ x.1.natAbs ≤ 9223372036854775808 ∧ inR .i64 x.1 ∧ (if x.1 = 0 ∧ x.2.1 < 64 then [] else digs b.toNat x.1.natAbs) ++ x.2.2.drop x.2.1 = digs b.toNat n.natAbs) (fun x => x.2.1) (n, 64, List.replicate 64 0) ?_ ?_ ?_
  · simp only [go_sem, go_sem, seval]
    try rfl
  · simp only [inR] at hn
    refine ⟨by simp, Nat.le_refl _, ?_, by simp only; omega, hn, by simp⟩
    have : (2 : Nat) ^ 64 = 18446744073709551616 := by decide
    simp only; omega
  rintro ⟨m, at', l⟩ ⟨i1, i2, i3, i4, i5, i6⟩
  simp only at i1 i2 i3 i4 i5 i6
  simp (config := {maxSteps := 2000000}) only [T_specFigures, go_sem, seval]
  (try simp (config := {maxSteps := 2000000}) only [gimp, impB, isT, go_sem, seval])
  have hB : b.toNat = 10 ∨ b.toNat = 16 := by omega
  have hbn : b.natAbs = b.toNat := by omega
  have e1 : (m.tmod b).natAbs = m.natAbs % b.toNat := by rw [Int.natAbs_tmod, hbn]
  have e2 : (m.tdiv b).natAbs = m.natAbs / b.toNat := by rw [Int.natAbs_tdiv, hbn]; rfl
  have e3 := max_abs (m.tmod b)
  rw [e1] at e3
  rw [e3]
  simp only [Int.toNat_natCast, Nat.zero_add, i1]
  simp only [inR] at i5
  have hmod : m.natAbs % b.toNat < 16 := by
    have := Nat.mod_lt m.natAbs (show b.toNat > 0 by omega)
    omega
  have hdiv : m.natAbs / b.toNat ≤ m.natAbs / 10 := Nat.div_le_div_left (by omega) (by omega)
  refine ⟨fun hc => ?_, fun h64 hm0 => ⟨⟨trivial, trivial, by omega, by omega⟩, trivial, ?_⟩⟩
  · have hat : 1 ≤ at' := by
      rcases Nat.eq_zero_or_pos at' with h0 | h0
      · subst h0; simp at i3; omega
      · exact h0
    have hcond : ¬ (m = 0 ∧ at' < 64) := by omega
    rw [if_neg hcond] at i6
    refine ⟨by omega, by omega, by omega, by omega, ⟨trivial, by omega, by omega⟩, ⟨trivial, by omega⟩, ⟨by omega, by omega⟩, (m.tdiv b, at' - 1, l.set (at' - 1) (signN (m.natAbs % b.toNat))), ⟨⟨rfl, by simp only; omega⟩, ?_⟩, ⟨by simp [i1], by simp only; omega, ?_, by simp only; omega, by simp only; omega, ?_⟩, by simp only; omega⟩
    · rw [List.map_set]; rfl
    · simp only
      rw [e2]
      exact half_lt (by omega) (by rw [show at' - 1 + 1 = at' by omega]; exact i3)
    · simp only
      rw [drop_set_at (by omega), show at' - 1 + 1 = at' by omega, ← i6, e2]
      by_cases hsm : m.natAbs < b.toNat
      · have h0 : m.natAbs / b.toNat = 0 := Nat.div_eq_of_lt hsm
        have hz : m.tdiv b = 0 := by omega
        rw [if_pos ⟨hz, by omega⟩, digs_small hsm, Nat.mod_eq_of_lt hsm]
        rfl
      · have h1 : 1 ≤ m.natAbs / b.toNat := (Nat.le_div_iff_mul_le (by omega)).2 (by omega)
        rw [if_neg (by omega), digs_step (n := m.natAbs) (by omega) (by omega) (by omega)]
        simp
  · rw [if_pos ⟨hm0, by omega⟩] at i6
    rw [← i6]
    exact List.take_of_length_le (by simp; omega)
def tb_specFigures : List Blk → List AV → Option (List Blk × AV × Prop)
  | [], [.int .i64 n, .int .i64 b] => some ([], .str (digs b.toNat n.natAbs), (inR .i64 n) ∧ (b = 10 ∨ b = 16))
  | _, _ => none
theorem tb_specFigures_ok : ∀ E args E' res p, tb_specFigures E args = some (E', res, p) → p → SpecE Try.prog 54 E args E' res := by
  intro E args E' res p h hp
  unfold tb_specFigures at h
  split at h
  · simp only [Option.some.injEq, Prod.mk.injEq] at h
    obtain ⟨rfl, rfl, rfl⟩ := h
    exact (specFigures _ _ hp.1 hp.2)
  · cases h
def T_specDigitsR : Tbl := fun g E args => nilT g E args
theorem T_specDigitsR_ok : TblOK Try.prog T_specDigitsR := nilT_ok
set_option maxRecDepth 100000 in
set_option maxHeartbeats 4000000 in
theorem specDigitsR (n b : Int) (hn : 0 ≤ n ∧ n ≤ 18446744073709551615) (hb : b = 10 ∨ b = 16) : SpecE Try.prog 64 [] [.int .u64 n, .int .u64 b] [] (.str (digs b.toNat n.natAbs)) := by
  refine specF0 (C := T_specDigitsR) (wr := false) (D := fun i => []) (U := fun _ => none) (res := [.str (digs b.toNat n.natAbs)]) Try.Ty.mixed T_specDigitsR_ok Try.func64 (nA := 2) (by decide +kernel) rfl (fun _ => rfl) ?_
  simp only [Try.f64, bodyOf, rlOf]
  rw [W_V]
  simp (config := {maxSteps := 2000000}) only [T_specDigitsR, go_sem, seval]
  (try simp (config := {maxSteps := 2000000}) only [gimp, impB, isT, go_sem, seval])
  refine VL_inv (X := Nat × List UInt8) (fun x => ⟨[(0, .int .u64 x.1), (1, .int .u64 b), (5, .str [48, 49, 50, 51, 52, 53, 54, 55, 56, 57, 97, 98, 99, 100, 101, 102]), (6, .str x.2)], []⟩)
    (fun x => x.1 ≤ n.natAbs ∧ digs b.toNat x.1 ++ x.2 = digs b.toNat n.natAbs) (fun x => x.1) (n.natAbs, []) ?_ ?_ ?_
  · simp only [go_sem, go_sem, seval]
    try (exact ⟨by omega, rfl⟩)
    try omega
  · exact ⟨Nat.le_refl _, by simp⟩
  rintro ⟨m, out⟩ ⟨i1, i3⟩
  simp only at i1 i3
  simp (config := {maxSteps := 2000000}) only [T_specDigitsR, go_sem, seval]
  (try simp (config := {maxSteps := 2000000}) only [gimp, impB, isT, go_sem, seval])
  have hB : b.toNat = 10 ∨ b.toNat = 16 := by omega
  have i2 : out.length ≤ 70 := by
    have := digs_len b.toNat n.natAbs
    rw [← i3] at this
    simp at this; omega
  obtain ⟨e1, e2⟩ := tmod_nat hb m
  rw [e1, e2]
  have hlt := Nat.mod_lt m (show b.toNat > 0 by omega)
  have hle : m / b.toNat ≤ m / 10 := Nat.div_le_div_left (by omega) (by omega)
  have hq : (0 : Int) ≤ ((m / b.toNat : Nat) : Int) := Int.natCast_nonneg _
  have e3 : (((m % b.toNat : Nat) : Int) + 1).toNat = m % b.toNat + 1 := by omega
  have e4 := sign_slice (m % b.toNat) (by omega)
  simp only [sign16] at e4
  rw [e3, Int.toNat_natCast, e4]
  refine ⟨fun h => ⟨by omega, by omega, by omega, by omega, by simp only [List.length_cons, List.length_nil]; omega, by omega, (m / b.toNat, [signN (m % b.toNat)] ++ out), ⟨rfl, rfl⟩, ⟨by simp only; omega, ?_⟩, by simp only; omega⟩, fun h => ⟨by omega, by omega, ?_, ?_⟩⟩
  · rw [← i3, digs_step (n := m) (by omega) (by omega) (by omega)]
    simp
  · rw [sign_slice' m (by omega)]; simp only [List.length_cons, List.length_nil]; omega
  · rw [sign_slice' m (by omega), ← i3, digs_small (by omega)]
def tb_specDigitsR : List Blk → List AV → Option (List Blk × AV × Prop)
  | [], [.int .u64 n, .int .u64 b] => some ([], .str (digs b.toNat n.natAbs), (0 ≤ n ∧ n ≤ 18446744073709551615) ∧ (b = 10 ∨ b = 16))
  | _, _ => none
theorem tb_specDigitsR_ok : ∀ E args E' res p, tb_specDigitsR E args = some (E', res, p) → p → SpecE Try.prog 64 E args E' res := by
  intro E args E' res p h hp
  unfold tb_specDigitsR at h
  split at h
  · simp only [Option.some.injEq, Prod.mk.injEq] at h
    obtain ⟨rfl, rfl, rfl⟩ := h
    exact (specDigitsR _ _ hp.1 hp.2)
  · cases h
def T_specText : Tbl := fun g E args => (addT nilT 54 Go.Proofs.Try.Dig.tb_specFigures) g E args
theorem T_specText_ok : TblOK Try.prog T_specText := (addT_ok nilT_ok (by decide +kernel) Go.Proofs.Try.Dig.tb_specFigures_ok)
set_option maxRecDepth 100000 in
set_option maxHeartbeats 4000000 in
theorem specText (n : Int) (hn : inR .i64 n) : SpecE Try.prog 40 [] [.int .i64 n] [] (.str (textI n)) := by
  refine specF0 (C := T_specText) (wr := false) (D := fun _ => []) (U := fun _ => none) (res := [.str (textI n)]) Try.Ty.mixed T_specText_ok Try.func40 (nA := 1) (by decide +kernel) rfl (fun _ => rfl) ?_
  simp only [Try.f40, bodyOf, rlOf]
  rw [W_V]
  simp (config := {maxSteps := 2000000}) only [T_specText, Go.Proofs.Try.Dig.tb_specFigures, go_sem, seval]
  (try simp (config := {maxSteps := 2000000}) only [gimp, impB, isT, go_sem, seval])
  simp only [inR] at hn
  have := digs_len 10 n.natAbs
  refine ⟨fun h => ⟨hn, by omega, by simp [textI, h]⟩, fun h => ⟨hn, by simp [textI, Int.not_lt.2 h]⟩⟩
def tb_specText : List Blk → List AV → Option (List Blk × AV × Prop)
  | [], [.int .i64 n] => some ([], .str (textI n), (inR .i64 n))
  | _, _ => none
theorem tb_specText_ok : ∀ E args E' res p, tb_specText E args = some (E', res, p) → p → SpecE Try.prog 40 E args E' res := by
  intro E args E' res p h hp
  unfold tb_specText at h
  split at h
  · simp only [Option.some.injEq, Prod.mk.injEq] at h
    obtain ⟨rfl, rfl, rfl⟩ := h
    exact (specText _ hp)
  · cases h
def T_specTextR : Tbl := fun g E args => (addT nilT 64 Go.Proofs.Try.Dig.tb_specDigitsR) g E args
theorem T_specTextR_ok : TblOK Try.prog T_specTextR := (addT_ok nilT_ok (by decide +kernel) Go.Proofs.Try.Dig.tb_specDigitsR_ok)
set_option maxRecDepth 100000 in
set_option maxHeartbeats 4000000 in
theorem specTextR (n : Int) (hn : inR .i64 n) : SpecE Try.prog 51 [] [.int .i64 n] [] (.str (textI n)) := by
  refine specF0 (C := T_specTextR) (wr := false) (D := fun _ => []) (U := fun _ => none) (res := [.str (textI n)]) Try.Ty.mixed T_specTextR_ok Try.func51 (nA := 1) (by decide +kernel) rfl (fun _ => rfl) ?_
  simp only [Try.f51, bodyOf, rlOf]
  rw [W_V]
  simp (config := {maxSteps := 2000000}) only [T_specTextR, Go.Proofs.Try.Dig.tb_specDigitsR, go_sem, seval]
  (try simp (config := {maxSteps := 2000000}) only [gimp, impB, isT, go_sem, seval])
  simp only [inR] at hn
  have := digs_len 10 (0 - (n + 1) + 1).natAbs
  refine ⟨fun h => ⟨by omega, by omega, by omega, by omega, by omega, by omega, ?_⟩, fun h => ⟨by omega, by omega, by simp [textI, Int.not_lt.2 h]⟩⟩
  simp only [textI, if_pos h]
  rw [show (0 - (n + 1) + 1).natAbs = n.natAbs by omega]
def tb_specTextR : List Blk → List AV → Option (List Blk × AV × Prop)
  | [], [.int .i64 n] => some ([], .str (textI n), (inR .i64 n))
  | _, _ => none
theorem tb_specTextR_ok : ∀ E args E' res p, tb_specTextR E args = some (E', res, p) → p → SpecE Try.prog 51 E args E' res := by
  intro E args E' res p h hp
  unfold tb_specTextR at h
  split at h
  · simp only [Option.some.injEq, Prod.mk.injEq] at h
    obtain ⟨rfl, rfl, rfl⟩ := h
    exact (specTextR _ hp)
  · cases h
end Go.Proofs.Try.Dig
end
section
set_option linter.unusedVariables false
set_option linter.unusedSimpArgs false
namespace Go.Proofs.Try.Fld
open Go Go.Abs Go.Proofs Go.Mdl
def T_specLine : Tbl := fun g E args => nilT g E args
theorem T_specLine_ok : TblOK Try.prog T_specLine := nilT_ok
set_option maxRecDepth 100000 in
set_option maxHeartbeats 4000000 in
theorem specLine (n v : List UInt8) (hn : n.length ≤ 1000000) (hv : v.length ≤ 1000000) : SpecE Try.prog 19 [] [.agg [.str n, .str v]] [] (.str (fldLine n v)) := by
  refine specF0 (C := T_specLine) (wr := false) (D := fun _ => []) (U := fun _ => none) (res := [.str (fldLine n v)]) Try.Ty.mixed T_specLine_ok Try.func19 (nA := 1) (by decide +kernel) rfl (fun _ => rfl) ?_
  simp only [Try.f19, bodyOf, rlOf]
  rw [W_V]
  simp (config := {maxSteps := 2000000}) only [T_specLine, go_sem, seval]
  (try simp (config := {maxSteps := 2000000}) only [gimp, impB, isT, go_sem, seval])
  refine ⟨fun h => ⟨by omega, by simp [fldLine, h]⟩, fun h => ⟨by omega, by simp; omega, by simp [fldLine, h]⟩⟩
def tb_specLine : List Blk → List AV → Option (List Blk × AV × Prop)
  | [], [.agg [.str n, .str v]] => some ([], .str (fldLine n v), (n.length ≤ 1000000) ∧ (v.length ≤ 1000000))
  | _, _ => none
theorem tb_specLine_ok : ∀ E args E' res p, tb_specLine E args = some (E', res, p) → p → SpecE Try.prog 19 E args E' res := by
  intro E args E' res p h hp
  unfold tb_specLine at h
  split at h
  · simp only [Option.some.injEq, Prod.mk.injEq] at h
    obtain ⟨rfl, rfl, rfl⟩ := h
    exact (specLine _ _ hp.1 hp.2)
  · cases h
def T_specLineR : Tbl := fun g E args => nilT g E args
theorem T_specLineR_ok : TblOK Try.prog T_specLineR := nilT_ok
set_option maxRecDepth 100000 in
set_option maxHeartbeats 4000000 in
theorem specLineR (n v : List UInt8) (hn : n.length ≤ 1000000) (hv : v.length ≤ 1000000) : SpecE Try.prog 23 [] [.agg [.str n, .str v]] [] (.str (fldLine n v)) := by
  refine specF0 (C := T_specLineR) (wr := false) (D := fun _ => []) (U := fun _ => none) (res := [.str (fldLine n v)]) Try.Ty.mixed T_specLineR_ok Try.func23 (nA := 1) (by decide +kernel) rfl (fun _ => rfl) ?_
  simp only [Try.f23, bodyOf, rlOf]
  rw [W_V]
  simp (config := {maxSteps := 2000000}) only [T_specLineR, go_sem, seval]
  (try simp (config := {maxSteps := 2000000}) only [gimp, impB, isT, go_sem, seval])
  refine ⟨by omega, fun h => ⟨by simp; omega, by simp; omega, by simp [fldLine, h]⟩, fun h => by simp [fldLine, h]⟩
def tb_specLineR : List Blk → List AV → Option (List Blk × AV × Prop)
  | [], [.agg [.str n, .str v]] => some ([], .str (fldLine n v), (n.length ≤ 1000000) ∧ (v.length ≤ 1000000))
  | _, _ => none
theorem tb_specLineR_ok : ∀ E args E' res p, tb_specLineR E args = some (E', res, p) → p → SpecE Try.prog 23 E args E' res := by
  intro E args E' res p h hp
  unfold tb_specLineR at h
  split at h
  · simp only [Option.some.injEq, Prod.mk.injEq] at h
    obtain ⟨rfl, rfl, rfl⟩ := h
    exact (specLineR _ _ hp.1 hp.2)
  · cases h
end Go.Proofs.Try.Fld
end
section
set_option linter.unusedVariables false
set_option linter.unusedSimpArgs false
namespace Go.Abs
def FinW (P : Program) (m : Nat) (rl : List ResultVar) (E' : List Blk) (res : List AV) : Ex → St → Prop := fun e st => ∃ st', Weak m st st' ∧ FinR P m rl E' res e st'
theorem spec_ofW {P : Program} {C : Tbl} {wr : Bool} {D : Nat → List Nat} {U : Nat → Option CutS} {f N : Nat} {fn : Func} {c : Code} {rl : List ResultVar} {E E' : List Blk} {args res : List AV}
    (hm : P.follows .mixedOrders = true) (hC : TblOK P C) (hcl : callable P f = true) (hy : f ≠ yldF) (hf : P.funcs[f]? = some fn) (hb : fn.body = some c) (hN : fn.ntmps = N) (hrs : fn.results = rl.toArray)
    (hok : (codeOK P N D c && decide (args.length ≤ N) && decide (E.length ≤ deadId)) = true)
    (h : W P C wr D U E.length c (St.init E args) (FinW P E.length rl E' res)) : SpecE P f E args E' (resAV res) := by
  simp only [Bool.and_eq_true, decide_eq_true_eq] at hok
  obtain ⟨⟨hok, hal⟩, hEd⟩ := hok
  intro w ok φ vs hh hl hr
  refine CallsX.calls hcl hy ?_
  refine (callsIn_wide (n := 0)).1 (callsIn_of_wp_marks hf hb trivial ?_)
  have hlk : ∀ i, (St.init E args).lk i = lkE E i := fun i => by simp [St.lk, St.init, extB_get, lkE]
  have hlk' : (St.init E args).lk = lkE E := funext hlk
  have hS : Sim N (lkE E) φ ok w (St.init E args) ok φ { tmps := vs.toArray ++ Array.replicate (fn.ntmps - vs.toArray.size) undef, defers := [] } w := by
    refine ⟨fun t => ?_, ?_, .nil, by rw [hlk']; exact hh, by rw [hlk']; exact Keeps.refl _ _ _ _, Fr.refl _ _, fun id b hb => .inl ⟨id, hb⟩, fun b o hb => .inl hb⟩
    · rw [hlk']
      simp only [St.get, St.init, argT_get, Nat.not_lt_zero, if_false, Nat.sub_zero]
      by_cases ht : t < args.length
      · have h1 : args[t]? = some args[t] := List.getElem?_eq_getElem ht
        have h2 : vs[t]? = some vs[t] := List.getElem?_eq_getElem (by omega)
        rw [List.getD_eq_getElem?_getD, h1]
        have : (vs.toArray ++ Array.replicate (fn.ntmps - vs.toArray.size) undef).getD t undef = vs[t] := by
          rw [Array.getD_eq_getD_getElem?, Array.getElem?_append_left (by simp; omega)]
          simp [h2]
        simp only [this, Option.getD_some]
        exact hr t _ _ h1 h2
      · rw [List.getD_eq_getElem?_getD, List.getElem?_eq_none (by omega)]
        exact .pure _ _ (.any _)
    · simp [hl, hN]; omega
  refine wpIn_mono (W_wp (.inl rfl) (N := N) (L0 := lkE E) (φ0 := φ) (ok0 := ok) (w0 := w) hm hC (fun i hi => by
      rcases Nat.lt_or_ge i E.length with h' | h'
      · exact h'
      · exact absurd (List.getElem?_eq_none_iff.2 h') hi) c _ _ ok φ _ w (.inl rfl) hok (fun e s t he hs => ?_) h hS) (fun e a' w' hp => ?_)
  · obtain ⟨s', h1, h2⟩ := hs
    exact ⟨s', h1.eq he, h2⟩
  · obtain ⟨e', st0, ok0, φ0, rfl, ⟨st', hwk, hq⟩, hS0⟩ := hp
    obtain ⟨ok1, φ1, hS1⟩ := hS0.weak (m := E.length) (fun i hi => by
      rcases Nat.lt_or_ge i E.length with h' | h'
      · exact h'
      · exact absurd (List.getElem?_eq_none_iff.2 h') hi) hwk
    have main : Ret P E.length rl E' res st' → LeavesInM Fence.wide 0 P fn a'.tmps (fun e w' => ∃ v ok' φ', e = .returned v ∧ PostE w ok (lkE E) φ w' ok' φ' (lkE E') (resAV res) v) a'.defers .returning w' := by
      rintro ⟨l, p, xs, hres, hp, h1, h2, h5, h6, h7, h8⟩
      have fin : ∀ {w2 : World}, Sim N (lkE E) φ ok w st' ok1 φ1 { a' with defers := [] } w2 → ∃ v, (results fn a'.tmps).run P w2 = .ok v w2 ∧ ∃ v' ok' φ', Ending.returned v = .returned v' ∧ PostE w ok (lkE E) φ w2 ok' φ' (lkE E') (resAV res) v' := by
        intro w2 S2
        obtain ⟨hll, vs', hvl, hvr, hrun⟩ := resR_ok S2.heap S2.slots rl l p hres hp
        obtain ⟨ok2, φ2, post⟩ := S2.post hEd hvl hvr h1 h2 h5 h6 h7
        exact ⟨_, results_run hrs hrun, _, ok2, φ2, rfl, post⟩
      obtain ⟨cur, old, e1, e2, e3, e4⟩ := hS1.defers
      have hc : cur = [] := by
        rcases e4 with g1 | ⟨b, g1, _⟩
        · exact g1
        · rw [h8] at g1; cases g1
      rw [e1, hc, List.nil_append]
      exact drain (a := { a' with defers := [] }) ⟨hS1.slots, hS1.size, .nil, hS1.heap, hS1.kept, hS1.frame, hS1.own, hS1.okDn⟩ rfl old e2 e3 fin
    cases e' with
    | normal => exact main hq
    | exit i => exact hq.elim
    | ret => exact main hq
theorem specW {P : Program} {C : Tbl} {wr : Bool} {D : Nat → List Nat} {U : Nat → Option CutS} {f : Nat} {fn : Func} {E E' : List Blk} {args res : List AV} {nE nA : Nat}
    (hm : P.follows .mixedOrders = true) (hC : TblOK P C) (hf : P.funcs[f]? = some fn) (hok : fnOK P fn D nE nA = true) (hE : E.length = nE) (hA : args.length = nA)
    (h : W P C wr D U nE (bodyOf fn) (St.init E args) (FinW P nE (rlOf fn) E' res)) : SpecE P f E args E' (resAV res) := by
  obtain ⟨hcl, hy⟩ := fnOK_call hf hok
  simp only [fnOK, Bool.and_eq_true, decide_eq_true_eq] at hok
  obtain ⟨⟨⟨⟨h1, h2⟩, h3⟩, h4⟩, _⟩ := hok
  subst hE hA
  refine spec_ofW (rl := rlOf fn) (N := fn.ntmps) (c := bodyOf fn) hm hC hcl hy hf ?_ rfl (by simp [rlOf]) ?_ h
  · unfold bodyOf
    cases hb : fn.body with
    | none => rw [hb] at h1; cases h1
    | some c => rfl
  · simp only [Bool.and_eq_true, decide_eq_true_eq]
    exact ⟨⟨h2, h3⟩, by simp only [deadId, defId] at h4 ⊢; omega⟩
theorem finW0r {P : Program} {rl : List ResultVar} {res : List AV} {st st' : St} (hw : Weak 0 st st') (hp : ∀ σ, renL σ res = res) (h : match resR P st'.lk st'.get rl with
    | some (l, p) => p ∧ noAny res = true ∧ subP st'.lk (fun _ => none) l res ∧ st'.lk defId = none
    | none => False) : FinW P 0 rl [] res .ret st := ⟨st', hw, ret0 hp h⟩
def kinvW {X : Type} (m : Nat) (emb : X → St) (I : X → Prop) (μ : X → Nat) (x : X) (Q : Ex → St → Prop) : Ex → St → Prop
  | .normal, s => ∃ x', Weak m s (emb x') ∧ I x' ∧ μ x' < μ x
  | .exit i, s => Q (.exit i) s
  | .ret, s => Q .ret s
section
variable {P : Program} {C : Tbl} {wr : Bool} {D : Nat → List Nat} {U : Nat → Option CutS} {m : Nat} {st : St} {Q : Ex → St → Prop} {b : Code}
theorem VL_invW {X : Type} (emb : X → St) (I : X → Prop) (μ : X → Nat) (x0 : X) (hw : Weak m st (emb x0)) (hI : I x0) (h : ∀ x, I x → @V P C wr m (emb x) ⟨D⟩ ⟨U⟩ ⟨b⟩ ⟨kinvW m emb I μ x Q⟩) : @VL P C wr m st ⟨D⟩ ⟨U⟩ ⟨b⟩ ⟨Q⟩ :=
  ⟨0, X, emb, I, μ, x0, hw, hI, fun x hx => W_mono _ _ _ _ (fun e s hs => by cases e <;> exact hs) (h x hx)⟩
theorem kinvW_normal {X : Type} {emb : X → St} {I : X → Prop} {μ : X → Nat} {x : X} {s} : kinvW m emb I μ x Q .normal s = ∃ x', Weak m s (emb x') ∧ I x' ∧ μ x' < μ x := rfl
theorem kinvW_exit {X : Type} {emb : X → St} {I : X → Prop} {μ : X → Nat} {x : X} {i s} : kinvW m emb I μ x Q (.exit i) s = Q (.exit i) s := rfl
theorem kinvW_ret {X : Type} {emb : X → St} {I : X → Prop} {μ : X → Nat} {x : X} {s} : kinvW m emb I μ x Q .ret s = Q .ret s := rfl
end
theorem lkB_ext (L : List (Nat × Blk)) (j : Nat) : ∀ (E : List Blk) (i : Nat), lkB (extB E i ++ L) j = if i ≤ j ∧ j < i + E.length then E[j - i]? else lkB L j
  | [], i => by rw [if_neg (by simp)]; rfl
  | b :: r, i => by
    simp only [extB, List.cons_append, lkB]
    by_cases e : i = j
    · subst e; simp
    · rw [if_neg e, lkB_ext L j r (i + 1)]
      simp only [List.length_cons]
      by_cases h : i ≤ j ∧ j < i + (r.length + 1)
      · rw [if_pos h, if_pos (by omega), show j - i = (j - (i + 1)) + 1 by omega, List.getElem?_cons_succ]
      · rw [if_neg h, if_neg (by omega)]
theorem lkB_ext_lo {L : List (Nat × Blk)} {j i : Nat} {E : List Blk} (h : j < i) : lkB (extB E i ++ L) j = lkB L j := by
  rw [lkB_ext, if_neg (by omega)]
theorem lkB_ext_hi {L : List (Nat × Blk)} {j i : Nat} {E : List Blk} (h : i + E.length ≤ j) : lkB (extB E i ++ L) j = lkB L j := by
  rw [lkB_ext, if_neg (by omega)]
theorem lkB_ext_in {L : List (Nat × Blk)} {i k : Nat} {E : List Blk} {b : Blk} (h : E[k]? = some b) : lkB (extB E i ++ L) (i + k) = some b := by
  have := (List.getElem?_eq_some_iff.1 h).1
  rw [lkB_ext, if_pos (by omega), Nat.add_sub_cancel_left, h]
theorem lkB_fam_lo {j i : Nat} {E : List Blk} (h : j < i) : lkB (extB E i) j = none := by
  have := lkB_ext_lo (L := []) (E := E) h
  rwa [List.append_nil] at this
theorem lkB_fam_hi {j i : Nat} {E : List Blk} (h : i + E.length ≤ j) : lkB (extB E i) j = none := by
  have := lkB_ext_hi (L := []) (E := E) h
  rwa [List.append_nil] at this
theorem lkB_fam_in {i k : Nat} {E : List Blk} {b : Blk} (h : E[k]? = some b) : lkB (extB E i) (i + k) = some b := by
  have := lkB_ext_in (L := []) (i := i) h
  rwa [List.append_nil] at this
theorem subB_fam {L L' : Nat → Option Blk} : ∀ (E : List Blk) (i : Nat), (∀ k b, E[k]? = some b → L (i + k) = some b ∧ blkOK L' b) → subB L L' (extB E i)
  | [], i, _ => trivial
  | b :: E, i, h => by
    refine ⟨.inl (h 0 b rfl), subB_fam E (i + 1) (fun k c hk => ?_)⟩
    have := h (k + 1) c (by simpa using hk)
    rwa [show i + 1 + k = i + (k + 1) by omega]
theorem swap_lk_ne {s : St} {a b j : Nat} (h1 : j ≠ a) (h2 : j ≠ b) : (s.swap a b).lk j = (s.lk j).map (renB (swapN a b)) := by
  rw [swap_lk]; simp [swapN, h1, h2]
theorem swap_lk_r {s : St} {a b : Nat} : (s.swap a b).lk b = (s.lk a).map (renB (swapN a b)) := by
  rw [swap_lk]
  by_cases h : b = a
  · subst h; simp [swapN]
  · simp [swapN, h]
theorem idsOKL_of {L : Nat → Option Blk} : ∀ {l : List AV}, (∀ a ∈ l, idsOK L a) → idsOKL L l
  | [], _ => trivial
  | a :: r, h => ⟨h a (by simp), idsOKL_of (fun b hb => h b (by simp [hb]))⟩
end Go.Abs
end
section
set_option linter.unusedVariables false
set_option linter.unusedSimpArgs false
namespace Go.Mdl
theorem sub_tail {α : Type} {x : α} {s a : List α} (h : s.Sublist (x :: a)) : s.tail.Sublist a := by
  cases h with
  | cons _ h => exact (List.tail_sublist s).trans h
  | cons_cons _ h => exact h
section
variable {α : Type} [DecidableEq α]
def lcs : List α → List α → Nat
  | [], _ => 0
  | _ :: _, [] => 0
  | x :: a, y :: b => if x = y then lcs a b + 1 else max (lcs a (y :: b)) (lcs (x :: a) b)
termination_by a b => a.length + b.length
theorem lcs_nil (b : List α) : lcs ([] : List α) b = 0 := by rw [lcs]
theorem lcs_nil' (a : List α) : lcs a ([] : List α) = 0 := by cases a <;> rw [lcs]
theorem lcs_cons (x y : α) (a b : List α) : lcs (x :: a) (y :: b) = if x = y then lcs a b + 1 else max (lcs a (y :: b)) (lcs (x :: a) b) := by rw [lcs]
theorem lcs_ub : ∀ (n : Nat) (a b s : List α), a.length + b.length ≤ n → s.Sublist a → s.Sublist b → s.length ≤ lcs a b
  | n, [], b, s, _, h1, _ => by
    have := List.sublist_nil.1 h1
    subst this; simp
  | n, x :: a, [], s, _, _, h2 => by
    have := List.sublist_nil.1 h2
    subst this; simp
  | 0, x :: a, y :: b, s, hn, _, _ => by simp at hn
  | n + 1, x :: a, y :: b, s, hn, h1, h2 => by
    simp only [List.length_cons] at hn
    rw [lcs_cons]
    split
    · have := lcs_ub n a b s.tail (by omega) (sub_tail h1) (sub_tail h2)
      rw [List.length_tail] at this
      omega
    · rename_i hne
      cases h1 with
      | cons _ h1 =>
        have := lcs_ub n a (y :: b) s (by simp only [List.length_cons]; omega) h1 h2
        omega
      | cons_cons _ h1 =>
        cases h2 with
        | cons _ h2 =>
          have := lcs_ub n (x :: a) b _ (by simp only [List.length_cons]; omega) (h1.cons_cons x) h2
          omega
        | cons_cons _ h2 => exact absurd rfl hne
theorem lcs_ex : ∀ (n : Nat) (a b : List α), a.length + b.length ≤ n → ∃ s : List α, s.Sublist a ∧ s.Sublist b ∧ s.length = lcs a b
  | n, [], b, _ => ⟨[], List.Sublist.refl _, List.nil_sublist b, by rw [lcs_nil]; rfl⟩
  | n, x :: a, [], _ => ⟨[], List.nil_sublist _, List.Sublist.refl _, by rw [lcs_nil']; rfl⟩
  | 0, x :: a, y :: b, hn => by simp at hn
  | n + 1, x :: a, y :: b, hn => by
    simp only [List.length_cons] at hn
    rw [lcs_cons]
    split
    · rename_i e
      subst e
      obtain ⟨s, h1, h2, h3⟩ := lcs_ex n a b (by omega)
      exact ⟨x :: s, h1.cons_cons x, h2.cons_cons x, by simp [h3]⟩
    · rcases Nat.le_total (lcs a (y :: b)) (lcs (x :: a) b) with h | h
      · obtain ⟨s, h1, h2, h3⟩ := lcs_ex n (x :: a) b (by simp only [List.length_cons]; omega)
        exact ⟨s, h1, h2.cons y, by omega⟩
      · obtain ⟨s, h1, h2, h3⟩ := lcs_ex n a (y :: b) (by simp only [List.length_cons]; omega)
        exact ⟨s, h1.cons x, h2, by omega⟩
theorem lcs_rev_le (a b : List α) : lcs a b ≤ lcs a.reverse b.reverse := by
  obtain ⟨s, h1, h2, h3⟩ := lcs_ex _ a b (Nat.le_refl _)
  have := lcs_ub _ a.reverse b.reverse s.reverse (Nat.le_refl _) (List.reverse_sublist.2 h1) (List.reverse_sublist.2 h2)
  simpa [h3] using this
theorem lcs_rev (a b : List α) : lcs a.reverse b.reverse = lcs a b := by
  have h1 := lcs_rev_le a b
  have h2 := lcs_rev_le a.reverse b.reverse
  simp only [List.reverse_reverse] at h2
  omega
theorem lcs_snoc (x y : α) (a b : List α) : lcs (a ++ [x]) (b ++ [y]) = if x = y then lcs a b + 1 else max (lcs a (b ++ [y])) (lcs (a ++ [x]) b) := by
  rw [← lcs_rev (a ++ [x]) (b ++ [y]), List.reverse_append, List.reverse_append]
  simp only [List.reverse_cons, List.reverse_nil, List.nil_append, List.cons_append]
  rw [lcs_cons, lcs_rev, ← lcs_rev a (b ++ [y]), ← lcs_rev (a ++ [x]) b, List.reverse_append, List.reverse_append]
  simp only [List.reverse_cons, List.reverse_nil, List.nil_append, List.cons_append]
theorem lcs_le (a b : List α) : lcs a b ≤ a.length := by
  obtain ⟨s, h1, _, h3⟩ := lcs_ex _ a b (Nat.le_refl _)
  rw [← h3]; exact h1.length_le
def linesS : List α → List α → List (Int × α)
  | [], [] => []
  | x :: a, [] => (1, x) :: linesS a []
  | [], y :: b => (2, y) :: linesS [] b
  | x :: a, y :: b => if x = y then (0, x) :: linesS a b else if lcs a (y :: b) ≥ lcs (x :: a) b then (1, x) :: linesS a (y :: b) else (2, y) :: linesS (x :: a) b
termination_by a b => a.length + b.length
theorem linesS_nn : linesS ([] : List α) [] = [] := by rw [linesS]
theorem linesS_cn (x : α) (a : List α) : linesS (x :: a) [] = (1, x) :: linesS a [] := by rw [linesS]
theorem linesS_nc (y : α) (b : List α) : linesS [] (y :: b) = (2, y) :: linesS [] b := by rw [linesS]
theorem linesS_cc (x y : α) (a b : List α) : linesS (x :: a) (y :: b) = if x = y then (0, x) :: linesS a b else if lcs a (y :: b) ≥ lcs (x :: a) b then (1, x) :: linesS a (y :: b) else (2, y) :: linesS (x :: a) b := by rw [linesS]
theorem linesS_len : ∀ (n : Nat) (a b : List α), a.length + b.length ≤ n → (linesS a b).length ≤ a.length + b.length
  | n, [], [], _ => by rw [linesS_nn]; simp
  | 0, x :: a, b, hn => by simp at hn
  | 0, [], y :: b, hn => by simp at hn
  | n + 1, x :: a, [], hn => by
    have := linesS_len n a [] (by simp only [List.length_cons, List.length_nil] at hn ⊢; omega)
    rw [linesS_cn]; simp only [List.length_cons, List.length_nil] at this ⊢; omega
  | n + 1, [], y :: b, hn => by
    have := linesS_len n [] b (by simp only [List.length_cons, List.length_nil] at hn ⊢; omega)
    rw [linesS_nc]; simp only [List.length_cons, List.length_nil] at this ⊢; omega
  | n + 1, x :: a, y :: b, hn => by
    simp only [List.length_cons] at hn
    have h1 := linesS_len n a b (by omega)
    have h2 := linesS_len n a (y :: b) (by simp only [List.length_cons]; omega)
    have h3 := linesS_len n (x :: a) b (by simp only [List.length_cons]; omega)
    simp only [List.length_cons] at h2 h3
    rw [linesS_cc]
    split
    · simp only [List.length_cons]; omega
    · split <;> (simp only [List.length_cons]; omega)
end
end Go.Mdl
end
section
set_option linter.unusedVariables false
set_option linter.unusedSimpArgs false
namespace Go.Proofs.Try.Dif
open Go Go.Abs Go.Proofs Go.Mdl
def refsF (n m : Nat) : List AV := (List.range n).map fun i => .ref (500000 + i) 0 m m
def rowF (m : Nat) (g : Nat → Int) : List AV := (List.range m).map fun k => .int .i64 (g k)
def rowsF (n m : Nat) (T : Nat → Nat → Int) : List Blk := (List.range n).map fun i => .cells 1 false (.int .i64 0) (rowF m (T i))
def tabAV (a b : List (List UInt8)) : AV := .list 1 ((List.range (a.length + 1)).map fun i => .list 1 (rowF (b.length + 1) fun k => (lcs (a.drop i) (b.drop k) : Nat)))
theorem refsF_len (n m : Nat) : (refsF n m).length = n := by simp [refsF]
theorem rowF_len (m : Nat) (g : Nat → Int) : (rowF m g).length = m := by simp [rowF]
theorem rowsF_len (n m : Nat) (T : Nat → Nat → Int) : (rowsF n m T).length = n := by simp [rowsF]
theorem refsF_get {n m j : Nat} (h : j < n) (d : AV) : (refsF n m).getD j d = .ref (500000 + j) 0 m m := by
  simp [refsF, List.getD_eq_getElem?_getD, List.getElem?_map, List.getElem?_range h]
theorem rowF_get {m j : Nat} {g : Nat → Int} (h : j < m) (d : AV) : (rowF m g).getD j d = .int .i64 (g j) := by
  simp [rowF, List.getD_eq_getElem?_getD, List.getElem?_map, List.getElem?_range h]
theorem rowsF_get {n m j : Nat} {T : Nat → Nat → Int} (h : j < n) : (rowsF n m T)[j]? = some (.cells 1 false (.int .i64 0) (rowF m (T j))) := by
  simp [rowsF, List.getElem?_map, List.getElem?_range h]
theorem rowF_set {m j : Nat} {g : Nat → Int} (v : Int) : (rowF m g).set j (.int .i64 v) = rowF m fun k => if k = j then v else g k := by
  apply List.ext_getElem?
  intro i
  by_cases hi : i < m
  · by_cases e : j = i
    · subst e; rw [List.getElem?_set_self (by rw [rowF_len]; exact hi)]; simp [rowF, hi]
    · rw [List.getElem?_set_ne e]; simp [rowF, hi, Ne.symm e]
  · rw [List.getElem?_eq_none (by rw [List.length_set, rowF_len]; omega), List.getElem?_eq_none (by rw [rowF_len]; omega)]
theorem rowF_pure (m : Nat) (g : Nat → Int) : pureEl (rowF m g) = true := pureEl_map _ _ (fun _ => rfl)
theorem refsF_snoc (n m : Nat) : refsF (n + 1) m = refsF n m ++ [.ref (500000 + n) 0 m m] := by simp [refsF, List.range_succ]
theorem refsF_ren (x m : Nat) (M : Nat) (hM : M < 500000) : (refsF x m).map (ren (swapN M (500000 + x))) = refsF x m := by
  simp only [refsF, List.map_map]
  apply List.map_congr_left
  intro j hj
  have := List.mem_range.1 hj
  simp only [Function.comp_apply, ren, swapN]
  rw [if_neg (by omega), if_neg (by omega)]
theorem refs_ids {L : Nat → Option Blk} {n m k : Nat} (h : ∀ j, j < n → L (500000 + j) ≠ none) : contOK L (refsF n m ++ List.replicate k .nils) := by
  refine .inr (idsOKL_of (fun a ha => ?_))
  rw [List.flatMap_append, List.mem_append] at ha
  rcases ha with ha | ha
  · obtain ⟨y, hy, h2⟩ := List.mem_flatMap.1 ha
    obtain ⟨j, hj, rfl⟩ := List.mem_map.1 hy
    simp only [AV.cells, List.mem_singleton] at h2
    subst h2
    exact h j (List.mem_range.1 hj)
  · obtain ⟨y, hy, h2⟩ := List.mem_flatMap.1 ha
    have := (List.mem_replicate.1 hy).2
    subst this
    simp only [AV.cells, List.mem_singleton] at h2
    subst h2
    trivial
theorem refs_ids0 {L : Nat → Option Blk} {n m : Nat} (h : ∀ j, j < n → L (500000 + j) ≠ none) : contOK L (refsF n m) := by
  have := refs_ids (k := 0) (m := m) h
  simpa using this
abbrev famL (n m : Nat) (c : List AV) (T : Nat → Nat → Int) : List (Nat × Blk) := (208, .cells 1 false .nils c) :: extB (rowsF n m T) 500000
theorem famL_row {n m j : Nat} {c : List AV} {T : Nat → Nat → Int} (h : j < n) : lkB (famL n m c T) (500000 + j) = some (.cells 1 false (.int .i64 0) (rowF m (T j))) := by
  show (if 208 = 500000 + j then _ else lkB _ _) = _
  rw [if_neg (by omega), lkB_fam_in (rowsF_get h)]
theorem famL_hi {n m : Nat} {c : List AV} {T : Nat → Nat → Int} (h : n ≤ 400000) : lkB (famL n m c T) defId = none := by
  have : lkB (extB (rowsF n m T) 500000) defId = none := lkB_fam_hi (by rw [rowsF_len]; simp only [defId]; omega)
  exact this
theorem weakF {s : St} {tm : List (Nat × AV)} {n m : Nat} {c : List AV} {T : Nat → Nat → Int} (hn : n ≤ 400000) (ht : noAnyT tm = true ∧ subTE s (lkB (famL n m c T)) tm) (h1 : s.lk 208 = some (.cells 1 false .nils c)) (h2 : contOK (lkB (famL n m c T)) c)
    (h3 : ∀ j, j < n → s.lk (500000 + j) = some (.cells 1 false (.int .i64 0) (rowF m (T j)))) (h4 : s.lk defId = none) : Weak 0 s ⟨tm, famL n m c T⟩ := by
  refine .base ⟨subTE_ok ht.1 ht.2, ⟨.inl ⟨h1, h2⟩, subB_fam _ _ (fun k b hk => ?_)⟩, .inl h4⟩
  have hk2 := (List.getElem?_eq_some_iff.1 hk).1
  rw [rowsF_len] at hk2
  rw [rowsF_get hk2] at hk
  cases hk
  exact ⟨h3 k hk2, .inl (rowF_pure _ _)⟩
theorem refs_step {x m k M : Nat} (hM : M < 500000) (hk : 0 < k) : ((refsF x m ++ List.replicate k AV.nils).set (0 + x) (AV.ref M 0 m m)).map (ren (swapN M (500000 + x))) = refsF (x + 1) m ++ List.replicate (k - 1) AV.nils := by
  obtain ⟨k, rfl⟩ : ∃ j, k = j + 1 := ⟨k - 1, by omega⟩
  rw [List.set_append_right _ _ (by rw [refsF_len]; omega), refsF_len, show 0 + x - x = 0 by omega, List.replicate_succ, List.set_cons_zero, List.map_append, refsF_ren _ _ _ hM, List.map_cons, List.map_replicate, refsF_snoc, List.append_assoc]
  simp [ren, swapN]
theorem rowF_zero (m : Nat) : AV.int .i64 0 :: List.replicate m (AV.int .i64 0) = rowF (m + 1) fun _ => 0 := by
  rw [← List.replicate_succ]
  refine (List.eq_replicate_iff.2 ⟨by simp [rowF], fun b hb => ?_⟩).symm
  obtain ⟨_, _, rfl⟩ := List.mem_map.1 hb
  rfl
theorem rowF_map (m : Nat) (g : Nat → Int) (σ : Nat → Nat) : (rowF m g).map (ren σ) = rowF m g := by simp [rowF, List.map_map, Function.comp_def, ren]
theorem rowF_congr {m : Nat} {g h : Nat → Int} (e : ∀ k, k < m → g k = h k) : rowF m g = rowF m h := by
  simp only [rowF]
  apply List.map_congr_left
  intro k hk
  rw [e k (List.mem_range.1 hk)]
def lcI (a b : List (List UInt8)) (i k : Nat) : Int := (lcs (a.drop i) (b.drop k) : Nat)
def T2 (a b : List (List UInt8)) (x i k : Nat) : Int := if x ≤ i then lcI a b i k else 0
def T3 (a b : List (List UInt8)) (x y i k : Nat) : Int := if x < i ∨ i = x ∧ y ≤ k then lcI a b i k else 0
theorem lcI_a {a b : List (List UInt8)} {i k : Nat} (h : a.length ≤ i) : lcI a b i k = 0 := by rw [lcI, List.drop_eq_nil_of_le h, lcs_nil]; rfl
theorem lcI_b {a b : List (List UInt8)} {i k : Nat} (h : b.length ≤ k) : lcI a b i k = 0 := by rw [lcI, List.drop_eq_nil_of_le h, lcs_nil']; rfl
theorem drop_get {l : List (List UInt8)} {i : Nat} (h : i < l.length) : l.drop i = l.getD i [] :: l.drop (i + 1) := by
  rw [List.drop_eq_getElem_cons h, List.getD_eq_getElem?_getD, List.getElem?_eq_getElem h]; rfl
theorem lcI_eq {a b : List (List UInt8)} {x y : Nat} (hx : x < a.length) (hy : y < b.length) (h : a.getD x [] = b.getD y []) : lcI a b x y = lcI a b (x + 1) (y + 1) + 1 := by
  simp only [lcI]; rw [drop_get hx, drop_get hy, lcs_cons, if_pos h]; simp
theorem lcI_ne {a b : List (List UInt8)} {x y : Nat} (hx : x < a.length) (hy : y < b.length) (h : ¬ a.getD x [] = b.getD y []) : lcI a b x y = max (lcI a b (x + 1) y) (lcI a b x (y + 1)) := by
  simp only [lcI]; rw [drop_get hx, drop_get hy, lcs_cons, if_neg h, ← drop_get hx, ← drop_get hy]; omega
theorem lcI_range (a b : List (List UInt8)) (x y : Nat) : 0 ≤ lcI a b x y ∧ lcI a b x y ≤ a.length := by
  have := lcs_le (a.drop x) (b.drop y)
  rw [List.length_drop] at this
  simp only [lcI]; omega
theorem weak_cell {tm tm' : List (Nat × AV)} {a b : List (List UInt8)} {n m x y : Nat} {v : Int} (hn : n ≤ 400000) (hx : x < n) (hv : v = lcI a b x y)
    (ht : noAnyT tm' = true ∧ subTE ⟨tm, (500000 + x, .cells 1 false (.int .i64 0) ((rowF m (T3 a b x (y + 1) x)).set (0 + y) (.int .i64 v))) :: famL n m (refsF n m) (T3 a b x (y + 1))⟩ (lkB (famL n m (refsF n m) (T3 a b x y))) tm') :
    Weak 0 ⟨tm, (500000 + x, .cells 1 false (.int .i64 0) ((rowF m (T3 a b x (y + 1) x)).set (0 + y) (.int .i64 v))) :: famL n m (refsF n m) (T3 a b x (y + 1))⟩ ⟨tm', famL n m (refsF n m) (T3 a b x y)⟩ := by
  refine weakF hn ht ?_ (refs_ids0 (fun j hj => by rw [famL_row hj]; simp)) ?_ ?_
  · show (if 500000 + x = 208 then _ else some _) = _
    rw [if_neg (by omega)]
  · intro j hj
    show (if 500000 + x = 500000 + j then _ else lkB (famL _ _ _ _) _) = _
    by_cases e : x = j
    · subst e
      rw [if_pos rfl, Nat.zero_add, rowF_set, rowF_congr (h := T3 a b x y x)]
      intro k hk
      simp only [T3, Nat.lt_irrefl, false_or, true_and]
      by_cases e2 : k = y
      · subst e2; rw [if_pos rfl, if_pos (Nat.le_refl _), hv]
      · rw [if_neg e2]
        by_cases e3 : y ≤ k
        · rw [if_pos (by omega), if_pos (by omega)]
        · rw [if_neg (by omega), if_neg (by omega)]
    · rw [if_neg (by omega), famL_row hj, rowF_congr (h := T3 a b x y j)]
      intro k hk
      simp only [T3]
      by_cases e3 : x < j
      · rw [if_pos (by omega), if_pos (by omega)]
      · rw [if_neg (by omega), if_neg (by omega)]
  · show (if 500000 + x = defId then _ else lkB (famL _ _ _ _) _) = _
    rw [if_neg (by simp only [defId]; omega), famL_hi hn]
theorem T3_at {a b : List (List UInt8)} {x y i k : Nat} (h : x < i ∨ i = x ∧ y ≤ k) : T3 a b x y i k = lcI a b i k := by rw [T3, if_pos h]
def T_tab : Tbl := fun g E args => nilT g E args
theorem T_tab_ok : TblOK Try.prog T_tab := nilT_ok
set_option maxRecDepth 100000 in
set_option maxHeartbeats 4000000 in
theorem specTableW (a b : List (List UInt8)) (ha : a.length ≤ 100000) (hb : b.length ≤ 100000) : SpecE Try.prog 15 [] [enc_strs a, enc_strs b] [] (tabAV a b) := by
  refine specW (C := T_tab) (wr := false) (D := fun i => if i = 14 then [16] else if i = 15 then [23] else []) (U := fun _ => none) (E := []) (E' := []) (res := [tabAV a b]) Try.Ty.mixed T_tab_ok Try.func15 (args := [enc_strs a, enc_strs b]) (nE := 0) (nA := 2) (by decide +kernel) rfl rfl ?_
  simp only [Try.f15, bodyOf, rlOf]
  rw [W_V]
  simp (config := {maxSteps := 2000000}) only [T_tab, go_sem, seval]
  refine ⟨by omega, by omega, by rw [List.length_replicate], ?_⟩
  refine VL_invW (X := Nat) (fun x => ⟨[(0, enc_strs a), (1, enc_strs b), (5, .ref 208 0 (a.length + 1) (a.length + 1)), (13, .ref 208 0 (a.length + 1) (a.length + 1)), (14, .int .i64 (a.length + 1)), (15, .int .i64 x)],
    famL x (b.length + 1) (refsF x (b.length + 1) ++ List.replicate (a.length + 1 - x) .nils) fun _ _ => 0⟩) (fun x => x ≤ a.length + 1) (fun x => a.length + 1 - x) 0 ?_ ?_ ?_
  · refine WeakE.weak ?_
    simp only [refsF, rowsF, extB, List.map_nil, List.nil_append, List.append_nil, Nat.sub_zero, List.replicate_succ, go_sem, seval]
    exact ⟨by omega, .inl (by simp [pureEl, pureBL, AV.cells, AV.pureB])⟩
  · exact Nat.zero_le _
  · intro x hx
    have hl : (refsF x (b.length + 1) ++ List.replicate (a.length + 1 - x) AV.nils).length = a.length + 1 := by rw [List.length_append, refsF_len, List.length_replicate]; omega
    simp (config := {maxSteps := 2000000}) only [T_tab, kinvW_normal, kinvW_exit, kinvW_ret, lkB_fam_lo, hl, go_sem, seval]
    refine ⟨fun hlt => ⟨by omega, by omega, by omega, by omega, by omega, x + 1, ?_, by omega, by omega⟩, fun hge => ⟨by omega, ?_⟩⟩
    · refine .swap 384 (500000 + x) (Nat.zero_le _) (Nat.zero_le _) (by decide) (by simp only [defId]; omega) (weakF (by omega) ⟨rfl, ?_⟩ ?_ ?_ ?_ ?_)
      · simp only [subTE, swap_get, go_sem, seval]
        rw [if_neg (by omega)]
        exact ⟨rfl, rfl, by omega⟩
      · rw [swap_lk_ne (by decide) (by omega)]
        show some (Blk.cells 1 false _ _) = _
        rw [refs_step (by decide) (by omega)]
        rfl
      · exact refs_ids (fun j hj => by rw [famL_row hj]; simp)
      · intro j hj
        by_cases e : j = x
        · subst e
          rw [swap_lk_r]
          show some (Blk.cells 1 false _ _) = _
          rw [rowF_zero, rowF_map]
          rfl
        · rw [swap_lk_ne (by omega) (by omega)]
          show Option.map _ (if 208 = 500000 + j then _ else if 384 = 500000 + j then _ else lkB (famL _ _ _ _) _) = _
          rw [if_neg (by omega), if_neg (by omega), famL_row (by omega)]
          show some (Blk.cells 1 false _ _) = _
          rw [rowF_map]
          rfl
      · rw [swap_lk_ne (by decide) (by simp only [defId]; omega)]
        show Option.map _ (lkB (famL _ _ _ _) _) = _
        rw [famL_hi (by omega)]
        rfl
    · have e : x = a.length + 1 := by omega
      subst e
      refine VL_invW (X := Nat) (fun x => ⟨[(0, enc_strs a), (1, enc_strs b), (5, .ref 208 0 (a.length + 1) (a.length + 1)), (7, .int .i64 ((x : Int) - 1))], famL (a.length + 1) (b.length + 1) (refsF (a.length + 1) (b.length + 1)) (T2 a b x)⟩) (fun x => x ≤ a.length) (fun x => x) a.length ?_ ?_ ?_
      · refine weakF (by omega) ⟨rfl, ?_⟩ ?_ ?_ ?_ ?_
        · simp only [go_sem, seval]
        · show some (Blk.cells 1 false _ _) = _
          rw [Nat.sub_self, List.replicate_zero, List.append_nil]
        · exact refs_ids0 (fun j hj => by rw [famL_row hj]; simp)
        · intro j hj
          show lkB (famL _ _ _ _) _ = _
          rw [famL_row hj]
          rw [rowF_congr (h := T2 a b a.length j)]
          intro k hk
          simp only [T2]
          split
          · rw [lcI_a (by omega)]
          · rfl
        · exact famL_hi (by omega)
      · exact Nat.le_refl _
      · intro x hx
        simp (config := {maxSteps := 2000000}) only [T_tab, kinvW_normal, kinvW_exit, kinvW_ret, lkB_fam_lo, go_sem, seval]
        refine ⟨fun h1 => ⟨by omega, ?_⟩, fun h1 => ?_⟩
        · obtain ⟨x, rfl⟩ : ∃ z, x = z + 1 := ⟨x - 1, by omega⟩
          refine VL_invW (X := Nat) (fun y => ⟨[(0, enc_strs a), (1, enc_strs b), (5, .ref 208 0 (a.length + 1) (a.length + 1)), (7, .int .i64 x), (8, .int .i64 ((y : Int) - 1))], famL (a.length + 1) (b.length + 1) (refsF (a.length + 1) (b.length + 1)) (T3 a b x y)⟩) (fun y => y ≤ b.length) (fun y => y) b.length ?_ ?_ ?_
          · refine weakF (by omega) ⟨rfl, ?_⟩ rfl (refs_ids0 (fun j hj => by rw [famL_row hj]; simp)) ?_ (famL_hi (by omega))
            · simp only [go_sem, seval]
              omega
            · intro j hj
              show lkB (famL _ _ _ _) _ = _
              rw [famL_row hj, rowF_congr (h := T3 a b x b.length j)]
              intro k hk
              simp only [T2, T3]
              by_cases e1 : x < j
              · rw [if_pos (by omega), if_pos (by omega)]
              · rw [if_neg (by omega)]
                split
                · rw [lcI_b (by omega)]
                · rfl
          · exact Nat.le_refl _
          · intro y hy
            have r0 : ∀ d, (refsF (a.length + 1) (b.length + 1)).getD (0 + x) d = .ref (500000 + x) 0 (b.length + 1) (b.length + 1) := fun d => by rw [Nat.zero_add]; exact refsF_get (by omega) d
            have r1 : ∀ d, (refsF (a.length + 1) (b.length + 1)).getD (0 + (x + 1)) d = .ref (500000 + (x + 1)) 0 (b.length + 1) (b.length + 1) := fun d => by rw [Nat.zero_add]; exact refsF_get (by omega) d
            have b0 : ∀ T, lkB (extB (rowsF (a.length + 1) (b.length + 1) T) 500000) (500000 + x) = _ := fun T => lkB_fam_in (rowsF_get (by omega))
            have b1 : ∀ T, lkB (extB (rowsF (a.length + 1) (b.length + 1) T) 500000) (500000 + (x + 1)) = _ := fun T => lkB_fam_in (rowsF_get (by omega))
            have n0 : (208 = 500000 + x) = False := by simp; omega
            have n1 : (208 = 500000 + (x + 1)) = False := by simp; omega
            rcases y with _ | y
            · simp (config := {maxSteps := 2000000}) only [T_tab, kinvW_normal, kinvW_exit, kinvW_ret, refsF_len, rowF_len, r0, r1, b0, b1, n0, n1, go_sem, seval]
              refine ⟨by omega, x, weakF (by omega) ⟨rfl, ?_⟩ rfl (refs_ids0 (fun j hj => by rw [famL_row hj]; simp)) ?_ (famL_hi (by omega)), by omega, by omega⟩
              · simp only [go_sem, seval]
              · intro j hj
                show lkB (famL _ _ _ _) _ = _
                rw [famL_row hj, rowF_congr (h := T2 a b x j)]
                intro k hk
                simp only [T2, T3]
                by_cases e1 : x ≤ j
                · rw [if_pos (by omega), if_pos (by omega)]
                · rw [if_neg (by omega), if_neg (by omega)]
            · have e1 : ((y + 1 : Nat) : Int) - 1 = y := by omega
              have g0 : ∀ g d, (rowF (b.length + 1) g).getD (0 + y) d = .int .i64 (g y) := fun g d => by rw [Nat.zero_add]; exact rowF_get (by omega) d
              have g1 : ∀ g d, (rowF (b.length + 1) g).getD (0 + (y + 1)) d = .int .i64 (g (y + 1)) := fun g d => by rw [Nat.zero_add]; exact rowF_get (by omega) d
              rw [e1]
              simp (config := {maxSteps := 2000000}) only [T_tab, kinvW_normal, kinvW_exit, kinvW_ret, refsF_len, rowF_len, r0, r1, b0, b1, n0, n1, g0, g1, go_sem, seval]
              have q1 := lcI_range a b (x + 1) (y + 1)
              refine ⟨fun _ => ⟨by omega, by omega, fun he => ?_, fun he => ?_⟩, fun h => by omega⟩
              · rw [T3_at (i := x + 1) (by omega)]
                refine ⟨by omega, by omega, by omega, by omega, by omega, by omega, by omega, by omega, by omega, by omega, by omega, by omega, y, weak_cell (by omega) (by omega) (lcI_eq (by omega) (by omega) he).symm ⟨rfl, ?_⟩, by omega, by omega⟩
                simp only [go_sem, seval]
              · rw [T3_at (i := x + 1) (by omega), T3_at (i := x) (k := y + 1) (by omega)]
                refine ⟨by omega, by omega, by omega, by omega, by omega, by omega, by omega, by omega, by omega, by omega, by omega, by omega, by omega, by omega, by omega, y, weak_cell (by omega) (by omega) (lcI_ne (by omega) (by omega) he).symm ⟨rfl, ?_⟩, by omega, by omega⟩
                simp only [go_sem, seval]
        · have e : x = 0 := by omega
          subst e
          refine finW0r (st' := ⟨[(4, .ref 208 0 (a.length + 1) (a.length + 1))], [(208, .cells 1 false .nils ((List.range (a.length + 1)).map fun i => .list 1 (rowF (b.length + 1) fun k => (lcs (a.drop i) (b.drop k) : Nat))))]⟩) (.base ⟨⟨.inl ⟨rfl, by simp [idsOK, St.lk, lkB]⟩, trivial⟩, ⟨.inr (.inr ⟨1, false, .nils, refsF (a.length + 1) (b.length + 1), _, rfl, rfl, ?_⟩), trivial⟩, .inl (famL_hi (by omega))⟩) (fun _ => ?_) ?_
          · refine ⟨by rw [List.length_map, List.length_range, refsF_len], fun i v v' hv hv' => ?_⟩
            have hi := (List.getElem?_eq_some_iff.1 hv).1
            rw [refsF_len] at hi
            simp only [refsF, List.getElem?_map, List.getElem?_range hi, Option.map_some, Option.some.injEq] at hv hv'
            subst hv; subst hv'
            refine ⟨rfl, fun j u u' hu hu' => ?_⟩
            have hj := (List.getElem?_eq_some_iff.1 hu).1
            simp only [AV.cells, List.length_singleton] at hj
            obtain rfl : j = 0 := by omega
            simp only [AV.cells, List.getElem?_cons_zero, Option.some.injEq] at hu hu'
            subst hu; subst hu'
            refine .inr (.inr (.inl ⟨_, _, _, _, 1, false, .int .i64 0, rowF (b.length + 1) (T2 a b 0 i), rfl, famL_row hi, ?_, by rw [rowF_len], rowF_pure _ _, ?_⟩))
            · show (if 208 = 500000 + i then _ else none) = none
              rw [if_neg (by omega)]
            · rw [List.drop_zero, List.take_of_length_le (by rw [rowF_len]; omega)]
              exact congrArg (AV.list 1) (rowF_congr fun k hk => by rw [T2, if_pos (Nat.zero_le _), lcI]).symm
          · simp [renL, ren, tabAV]
          · simp only [rlOf, tabAV, go_sem, seval]
            exact ⟨by rw [List.take_of_length_le (by simp)], by simp⟩
end Go.Proofs.Try.Dif
end
section
set_option linter.unusedVariables false
set_option linter.unusedSimpArgs false
namespace Go.Mdl
open Go Go.Abs
abbrev Rw := Int × List UInt8
def enc_rw (p : Rw) : AV := .agg [.int .i64 p.1, .str p.2]
def dec_rw : AV → Rw
  | .agg [.int _ n, .str s] => (n, s)
  | _ => (0, [])
def enc_rws (l : List Rw) : AV := .list 2 (l.map enc_rw)
def dec_rws (a : AV) : List Rw := (listOf a).map dec_rw
theorem getD_map_rw (l : List Rw) (n : Nat) : (l.map enc_rw).getD n (.agg [.int .i64 0, .str []]) = enc_rw (l.getD n (0, [])) := by
  simp only [List.getD_eq_getElem?_getD, List.getElem?_map]; cases l[n]? <;> rfl
theorem map_rw (l : List Rw) : (l.map enc_rw).map dec_rw = l := by simp [List.map_map, Function.comp_def, enc_rw, dec_rw]
theorem pure_rw (p : Rw) : pureBL (enc_rw p).cells = true := rfl
theorem pids_rw (p : Rw) : pids (enc_rw p) = [] := rfl
theorem ren_rw (σ : Nat → Nat) (p : Rw) : ren σ (enc_rw p) = enc_rw p := rfl
theorem ref_rw (p : Rw) : refOf (enc_rw p) = none := rfl
theorem cells_rw (p : Rw) : (enc_rw p).cells = [.int .i64 p.1, .str p.2] := rfl
theorem pureEl_rw (l : List Rw) : pureEl (l.map enc_rw) = true := pureEl_map enc_rw l (fun _ => rfl)
theorem oneRef_rw (l : List Rw) : oneRef (l.map enc_rw) = none := oneRef_map (fun _ => rfl) l
theorem pidsL_rw (l : List Rw) : pidsL (l.map enc_rw) = [] := pidsL_map (fun _ => rfl) l
theorem renL_rw (σ : Nat → Nat) (l : List Rw) : (l.map enc_rw).map (ren σ) = l.map enc_rw := ren_map (fun _ => rfl) l
attribute [go_sem] enc_rw pureEl_rw oneRef_rw pidsL_rw renL_rw cells_rw getD_map_rw map_rw pure_rw pids_rw ren_rw ref_rw enc_rws dec_rws
theorem map_rw_snoc (l : List Rw) (n : Int) (s : List UInt8) : l.map enc_rw ++ [.agg [.int .i64 n, .str s]] = (l ++ [(n, s)]).map enc_rw := by rw [List.map_append]; rfl
end Go.Mdl
namespace Go.Proofs.Try.Dif
open Go Go.Abs Go.Mdl
theorem rowF_ref (m : Nat) (g : Nat → Int) : oneRef (rowF m g) = none := oneRef_map (fun _ => rfl) _
def tabL (a b : List (List UInt8)) : List AV := (List.range (a.length + 1)).map fun i => .list 1 (rowF (b.length + 1) fun k => (lcs (a.drop i) (b.drop k) : Nat))
theorem tabAV_eq (a b : List (List UInt8)) : tabAV a b = .list 1 (tabL a b) := rfl
theorem tabL_len (a b : List (List UInt8)) : (tabL a b).length = a.length + 1 := by simp [tabL]
theorem tabL_get {a b : List (List UInt8)} {i : Nat} (h : i ≤ a.length) (d : AV) : (tabL a b).getD i d = .list 1 (rowF (b.length + 1) fun k => (lcs (a.drop i) (b.drop k) : Nat)) := by
  simp [tabL, List.getD_eq_getElem?_getD, List.getElem?_map, List.getElem?_range (show i < a.length + 1 by omega)]
theorem map_ren_rw (σ : Nat → Nat) (l : List Rw) (n : Int) (s : List UInt8) : (l.map enc_rw ++ [AV.agg [AV.int .i64 n, AV.str s]]).map (ren σ) = (l ++ [(n, s)]).map enc_rw := by rw [map_rw_snoc, renL_rw]
theorem at_same {a b : List (List UInt8)} {i k : Nat} (hi : i < a.length) (hk : k < b.length) (h : a.getD i [] = b.getD k []) : linesS (a.drop i) (b.drop k) = (0, a.getD i []) :: linesS (a.drop (i + 1)) (b.drop (k + 1)) := by
  rw [drop_get hi, drop_get hk, linesS_cc, if_pos h]
theorem at_gone {a b : List (List UInt8)} {i k : Nat} (hi : i < a.length) (hk : k < b.length) (h : ¬ a.getD i [] = b.getD k []) (hl : (lcs (a.drop i) (b.drop (k + 1)) : Int) ≤ (lcs (a.drop (i + 1)) (b.drop k) : Nat)) : linesS (a.drop i) (b.drop k) = (1, a.getD i []) :: linesS (a.drop (i + 1)) (b.drop k) := by
  have hl : lcs (a.drop i) (b.drop (k + 1)) ≤ lcs (a.drop (i + 1)) (b.drop k) := by omega
  rw [drop_get hi] at hl
  conv at hl => rhs; rw [drop_get hk]
  rw [drop_get hi, drop_get hk, linesS_cc, if_neg h, if_pos hl]
theorem at_new {a b : List (List UInt8)} {i k : Nat} (hi : i < a.length) (hk : k < b.length) (h : ¬ a.getD i [] = b.getD k []) (hl : ¬ (lcs (a.drop i) (b.drop (k + 1)) : Int) ≤ (lcs (a.drop (i + 1)) (b.drop k) : Nat)) : linesS (a.drop i) (b.drop k) = (2, b.getD k []) :: linesS (a.drop i) (b.drop (k + 1)) := by
  have hl : ¬ lcs (a.drop i) (b.drop (k + 1)) ≤ lcs (a.drop (i + 1)) (b.drop k) := by omega
  rw [drop_get hi] at hl
  conv at hl => rhs; rhs; rw [drop_get hk]
  rw [drop_get hi, drop_get hk, linesS_cc, if_neg h, if_neg hl]
theorem at_rest {a b : List (List UInt8)} {i k : Nat} (hi : i < a.length) (hk : b.length ≤ k) : linesS (a.drop i) (b.drop k) = (1, a.getD i []) :: linesS (a.drop (i + 1)) (b.drop k) := by
  rw [drop_get hi, List.drop_eq_nil_of_le hk, linesS_cn]
theorem at_add {a b : List (List UInt8)} {i k : Nat} (hi : a.length ≤ i) (hk : k < b.length) : linesS (a.drop i) (b.drop k) = (2, b.getD k []) :: linesS (a.drop i) (b.drop (k + 1)) := by
  rw [drop_get hk, List.drop_eq_nil_of_le hi, linesS_nc]
theorem rowF_getI (m j : Nat) (g : Nat → Int) : (rowF m g).getD j (.int .i64 0) = .int .i64 (if j < m then g j else 0) := by
  by_cases h : j < m
  · rw [rowF_get h, if_pos h]
  · rw [if_neg h, List.getD_eq_getElem?_getD, List.getElem?_eq_none (by rw [rowF_len]; omega)]; rfl
theorem tabL_out {a b : List (List UInt8)} {i : Nat} (h : a.length < i) : (tabL a b).getD i .nils = .nils := by
  rw [List.getD_eq_getElem?_getD, List.getElem?_eq_none (by rw [tabL_len]; omega)]; rfl
end Go.Proofs.Try.Dif
end
section
set_option linter.unusedVariables false
set_option linter.unusedSimpArgs false
namespace Go.Proofs.Try.Dif
open Go Go.Abs Go.Proofs Go.Mdl
set_option maxRecDepth 100000 in
set_option maxHeartbeats 4000000 in
theorem specTable (a b : List (List UInt8)) (ha : a.length ≤ 100000) (hb : b.length ≤ 100000) : SpecE Try.prog 15 [] [enc_strs a, enc_strs b] [] (tabAV a b) := by
  exact specTableW a b ha hb
def tb_specTable : List Blk → List AV → Option (List Blk × AV × Prop)
  | [], [a0, a1] => some ([], tabAV (dec_strs a0) (dec_strs a1), ((dec_strs a0).length ≤ 100000) ∧ ((dec_strs a1).length ≤ 100000) ∧ argOK a0 (enc_strs (dec_strs a0)) ∧ argOK a1 (enc_strs (dec_strs a1)))
  | _, _ => none
theorem tb_specTable_ok : ∀ E args E' res p, tb_specTable E args = some (E', res, p) → p → SpecE Try.prog 15 E args E' res := by
  intro E args E' res p h hp
  unfold tb_specTable at h
  split at h
  · simp only [Option.some.injEq, Prod.mk.injEq] at h
    obtain ⟨rfl, rfl, rfl⟩ := h
    exact SpecE.args (specTable _ _ hp.1 hp.2.1) (.cons hp.2.2.1 (.cons hp.2.2.2 .nil))
  · cases h
def T_specLong : Tbl := fun g E args => nilT g E args
theorem T_specLong_ok : TblOK Try.prog T_specLong := nilT_ok
set_option maxRecDepth 100000 in
set_option maxHeartbeats 4000000 in
theorem specLong (a b : List (List UInt8)) (ha : a.length ≤ 100000) (hb : b.length ≤ 100000) : SpecE Try.prog 20 [] [enc_strs a, enc_strs b] [] (.int .i64 (lcs a b : Nat)) := by
  refine specF0 (C := T_specLong) (wr := false) (D := fun i => if i = 10 then [9] else if i = 11 then [14] else []) (U := fun _ => none) (res := [.int .i64 (lcs a b : Nat)]) Try.Ty.mixed T_specLong_ok Try.func20 (nA := 2) (by decide +kernel) rfl (fun _ => rfl) ?_
  simp only [Try.f20, bodyOf, rlOf]
  rw [W_V]
  simp (config := {maxSteps := 2000000}) only [T_specLong, go_sem, seval, rowF_len, rowF_ref, rowF_pure, rowF_map]
  (try simp (config := {maxSteps := 2000000}) only [gimp, impB, isT, go_sem, seval])
  refine ⟨by omega, by omega, ?_⟩
  refine VL_invS [(368, 208)] (X := Nat) (fun x => ⟨[(0, enc_strs a), (1, enc_strs b), (5, .ref 208 0 (b.length + 1) (b.length + 1)), (6, .int .i64 x)], [(208, .cells 1 false (.int .i64 0) (rowF (b.length + 1) fun k => (lcs (a.take x) (b.take k) : Nat)))]⟩) (fun x => x ≤ a.length) (fun x => a.length - x) 0 ?_ ?_ ?_
  · simp only [rowF_zero, rowF_len, rowF_ref, rowF_pure, List.take_zero, lcs_nil, go_sem, go_sem, seval]
    exact .inl trivial
  · exact Nat.zero_le _
  intro x hx
  simp (config := {maxSteps := 2000000}) only [T_specLong, go_sem, seval, rowF_len, rowF_ref, rowF_pure, rowF_map]
  (try simp (config := {maxSteps := 2000000}) only [gimp, impB, isT, go_sem, seval])
  refine ⟨fun hlt => ⟨by omega, by omega, ?_⟩, fun hge => ?_⟩
  · refine VL_inv (X := Nat) (fun y => ⟨[(0, enc_strs a), (1, enc_strs b), (5, .ref 208 0 (b.length + 1) (b.length + 1)), (6, .int .i64 x), (7, .ref 368 0 (b.length + 1) (b.length + 1)), (8, .int .i64 y)], [(208, .cells 1 false (.int .i64 0) (rowF (b.length + 1) fun k => (lcs (a.take x) (b.take k) : Nat))), (368, .cells 1 false (.int .i64 0) (rowF (b.length + 1) fun k => if k ≤ y then (lcs (a.take (x + 1)) (b.take k) : Nat) else 0))]⟩) (fun y => y ≤ b.length) (fun y => b.length - y) 0 ?_ ?_ ?_
    · simp only [rowF_zero, rowF_len, rowF_ref, rowF_pure, List.take_zero, lcs_nil, go_sem, go_sem, seval]
      refine rowF_congr (fun k hk => ?_)
      split
      · rename_i e
        obtain rfl : k = 0 := by omega
        rw [List.take_zero, lcs_nil']; rfl
      · rfl
    · exact Nat.zero_le _
    intro y hy
    by_cases hy2 : y < b.length
    · have g0 : ∀ g d, (rowF (b.length + 1) g).getD (0 + y) d = .int .i64 (g y) := fun g d => by rw [Nat.zero_add]; exact rowF_get (by omega) d
      have g1 : ∀ g d, (rowF (b.length + 1) g).getD (0 + (y + 1)) d = .int .i64 (g (y + 1)) := fun g d => by rw [Nat.zero_add]; exact rowF_get (by omega) d
      simp (config := {maxSteps := 2000000}) only [g0, g1, T_specLong, go_sem, seval, rowF_len, rowF_ref, rowF_pure, rowF_map]
      have q1 := lcs_le (a.take x) (b.take y)
      rw [List.length_take] at q1
      have st : ∀ v : Int, v = (lcs (a.take (x + 1)) (b.take (y + 1)) : Nat) → (rowF (b.length + 1) fun k => if k ≤ y then (lcs (a.take (x + 1)) (b.take k) : Int) else 0).set (0 + (y + 1)) (.int .i64 v) = rowF (b.length + 1) fun k => if k ≤ y + 1 then (lcs (a.take (x + 1)) (b.take k) : Int) else 0 := fun v hv => by
        rw [Nat.zero_add, rowF_set]
        refine rowF_congr (fun k hk => ?_)
        by_cases e : k = y + 1
        · subst e; rw [if_pos rfl, if_pos (Nat.le_refl _), hv]
        · rw [if_neg e]
          by_cases e2 : k ≤ y
          · rw [if_pos e2, if_pos (by omega)]
          · rw [if_neg e2, if_neg (by omega)]
      have t1 := take_succ_getD (s := a) (x := x) [] (by omega)
      have t2 := take_succ_getD (s := b) (x := y) [] (by omega)
      refine ⟨fun _ => ⟨by omega, by omega, fun he => ⟨by omega, by omega, by omega, by omega, by omega, by omega, by omega, y + 1, ⟨by omega, st _ ?_⟩, by omega, by omega⟩, fun he => ⟨by omega, by omega, by omega, by omega, by omega, by omega, by omega, by omega, by omega, y + 1, ⟨by omega, st _ ?_⟩, by omega, by omega⟩⟩, fun h => absurd h (by omega)⟩
      · rw [t1, t2, lcs_snoc, if_pos he]; simp
      · rw [if_pos (Nat.le_refl _), t1, t2, lcs_snoc, if_neg he, ← t1, ← t2]; omega
    · simp (config := {maxSteps := 2000000}) only [T_specLong, go_sem, seval, rowF_len, rowF_ref, rowF_pure, rowF_map]
      refine ⟨fun h => absurd h (by omega), fun h => ⟨by omega, x + 1, .inr ⟨by omega, rowF_congr (fun k hk => by rw [if_pos (by omega)])⟩, by omega, by omega⟩⟩
  · have e : x = a.length := by omega
    subst e
    have gb := fun g d => rowF_get (m := b.length + 1) (j := b.length) (g := g) (by omega) d
    rw [Nat.zero_add, gb, List.take_length, List.take_length]
    exact ⟨⟨by omega, by omega⟩, by omega, trivial, rfl, rfl⟩
def tb_specLong : List Blk → List AV → Option (List Blk × AV × Prop)
  | [], [a0, a1] => some ([], .int .i64 (lcs (dec_strs a0) (dec_strs a1) : Nat), ((dec_strs a0).length ≤ 100000) ∧ ((dec_strs a1).length ≤ 100000) ∧ argOK a0 (enc_strs (dec_strs a0)) ∧ argOK a1 (enc_strs (dec_strs a1)))
  | _, _ => none
theorem tb_specLong_ok : ∀ E args E' res p, tb_specLong E args = some (E', res, p) → p → SpecE Try.prog 20 E args E' res := by
  intro E args E' res p h hp
  unfold tb_specLong at h
  split at h
  · simp only [Option.some.injEq, Prod.mk.injEq] at h
    obtain ⟨rfl, rfl, rfl⟩ := h
    exact SpecE.args (specLong _ _ hp.1 hp.2.1) (.cons hp.2.2.1 (.cons hp.2.2.2 .nil))
  · cases h
def T_specPut : Tbl := fun g E args => nilT g E args
theorem T_specPut_ok : TblOK Try.prog T_specPut := nilT_ok
set_option maxRecDepth 100000 in
set_option maxHeartbeats 4000000 in
theorem specPut (l : List Rw) (n : Int) (s : List UInt8) (hl : l.length ≤ 1000000) : SpecE Try.prog 16 [.cells 1 false .nils [.ref 1 0 l.length l.length], .cells 2 false (.agg [.int .i64 0, .str []]) (l.map enc_rw)] [.int .i64 n, .str s, .ptr 0 0 0 1] [.cells 1 false .nils [.ref 1 0 (l ++ [(n, s)]).length (l ++ [(n, s)]).length], .cells 2 false (.agg [.int .i64 0, .str []]) ((l ++ [(n, s)]).map enc_rw)] (.tuple []) := by
  refine specFE (C := T_specPut) (wr := false) (D := fun _ => []) (U := fun _ => none) (E := [.cells 1 false .nils [.ref 1 0 l.length l.length], .cells 2 false (.agg [.int .i64 0, .str []]) (l.map enc_rw)]) (E' := [.cells 1 false .nils [.ref 1 0 (l ++ [(n, s)]).length (l ++ [(n, s)]).length], .cells 2 false (.agg [.int .i64 0, .str []]) ((l ++ [(n, s)]).map enc_rw)]) (res := []) [] Try.Ty.mixed T_specPut_ok Try.func16 (args := [.int .i64 n, .str s, .ptr 0 0 0 1]) (nE := 2) (nA := 3) (by decide +kernel) rfl rfl ?_
  simp only [Try.f16, bodyOf, rlOf]
  rw [W_V]
  simp (config := {maxSteps := 2000000}) only [T_specPut, go_sem, seval]
  (try simp (config := {maxSteps := 2000000}) only [gimp, impB, isT, go_sem, seval])
  refine ⟨by omega, ⟨by simp, ?_⟩, ?_, ?_⟩
  · rw [map_rw_snoc]
  · rw [map_rw_snoc]
  · simp
def tb_put : List Blk → List AV → Option (List Blk × AV × Prop)
  | [.cells 1 false d1 [.ref 1 0 n m], .cells 2 false d2 c], [.int .i64 k, .str s, .ptr 0 0 0 1] =>
    some ([.cells 1 false d1 [.ref 1 0 (c.length + 1) (c.length + 1)], .cells 2 false d2 (c ++ [.agg [.int .i64 k, .str s]])], .tuple [],
      d1 = .nils ∧ d2 = .agg [.int .i64 0, .str []] ∧ n = c.length ∧ m = c.length ∧ (c.map dec_rw).map enc_rw = c ∧ c.length ≤ 1000000)
  | _, _ => none
theorem tb_put_ok : ∀ E args E' res q, tb_put E args = some (E', res, q) → q → SpecE Try.prog 16 E args E' res := by
  intro E args E' res q h hq
  unfold tb_put at h
  split at h
  · simp only [Option.some.injEq, Prod.mk.injEq] at h
    obtain ⟨rfl, rfl, rfl⟩ := h
    obtain ⟨rfl, rfl, rfl, rfl, h1, h2⟩ := hq
    rename_i c k s
    have := specPut (c.map dec_rw) k s (by rw [List.length_map]; exact h2)
    simp only [List.map_append, h1, List.length_append, List.length_map, List.length_singleton] at this
    exact this
  · cases h
def pT : Tbl := addT nilT 16 tb_put
theorem pT_ok : TblOK Try.prog pT := addT_ok nilT_ok (by decide +kernel) tb_put_ok
def T_specLines : Tbl := fun g E args => (addT pT 15 Go.Proofs.Try.Dif.tb_specTable) g E args
theorem T_specLines_ok : TblOK Try.prog T_specLines := (addT_ok pT_ok (by decide +kernel) Go.Proofs.Try.Dif.tb_specTable_ok)
set_option maxRecDepth 100000 in
set_option maxHeartbeats 4000000 in
theorem specLines (a b : List (List UInt8)) (ha : a.length ≤ 100000) (hb : b.length ≤ 100000) : SpecE Try.prog 10 [] [enc_strs a, enc_strs b] [] (enc_rws (linesS a b)) := by
  refine specF0 (C := T_specLines) (wr := false) (D := fun _ => []) (U := fun _ => none) (res := [enc_rws (linesS a b)]) Try.Ty.mixed T_specLines_ok Try.func10 (nA := 2) (by decide +kernel) rfl (fun _ => rfl) ?_
  simp only [Try.f10, bodyOf, rlOf]
  rw [W_V]
  simp (config := {maxSteps := 2000000}) only [T_specLines, Go.Proofs.Try.Dif.tb_specTable, go_sem, seval, pT, tb_put, tabAV_eq, tabL_len]
  (try simp (config := {maxSteps := 2000000}) only [gimp, impB, isT, go_sem, seval])
  refine ⟨⟨ha, hb⟩, ?_⟩
  refine VL_inv (X := Nat × Nat × List Rw) (fun x => ⟨[(0, enc_strs a), (1, enc_strs b), (5, .list 1 (tabL a b)), (6, .ptr 112 0 0 1), (7, .clo 16 0 [.ptr 112 0 0 1]), (8, .int .i64 x.1), (9, .int .i64 x.2.1)],
    [(112, .cells 1 false .nils [.ref 320 0 x.2.2.length x.2.2.length]), (320, .cells 2 false (.agg [.int .i64 0, .str []]) (x.2.2.map enc_rw))]⟩)
    (fun x => x.1 ≤ a.length ∧ x.2.1 ≤ b.length ∧ x.2.2.length ≤ x.1 + x.2.1 ∧ linesS a b = x.2.2 ++ linesS (a.drop x.1) (b.drop x.2.1)) (fun x => (a.length - x.1) + (b.length - x.2.1)) (0, 0, []) ?_ ?_ ?_
  · simp only [T_specLines, Go.Proofs.Try.Dif.tb_specTable, go_sem, seval, pT, tb_put, tabAV_eq, tabL_len]
  · exact ⟨Nat.zero_le _, Nat.zero_le _, Nat.le_refl _, rfl⟩
  rintro ⟨i, k, l⟩ ⟨i1, i2, i3, i4⟩
  simp only at i1 i2 i3 i4
  by_cases hi : i < a.length
  · by_cases hk : k < b.length
    · have hi' : ((i : Int) < a.length) = True := by simp; exact hi
      have hk' : ((k : Int) < b.length) = True := by simp; exact hk
      have g1 : ∀ d, (tabL a b).getD (i + 1) d = _ := fun d => tabL_get (by omega) d
      have g0 : ∀ d, (tabL a b).getD i d = _ := fun d => tabL_get (by omega) d
      have r0 : ∀ g d, (rowF (b.length + 1) g).getD k d = .int .i64 (g k) := fun g d => rowF_get (by omega) d
      have r1 : ∀ g d, (rowF (b.length + 1) g).getD (k + 1) d = .int .i64 (g (k + 1)) := fun g d => rowF_get (by omega) d
      simp (config := {maxSteps := 2000000}) only [hi', hk', g0, g1, r0, r1, T_specLines, Go.Proofs.Try.Dif.tb_specTable, go_sem, seval, pT, tb_put, tabAV_eq, tabL_len]
      (try simp (config := {maxSteps := 2000000}) only [hi', hk', rowF_len, gimp, impB, isT, map_ren_rw, go_sem, seval])
      have nx : ∀ (n : Int) (s : List UInt8), (l ++ [(n, s)]).length = l.length + 1 := fun n s => by simp
      (repeat' (first | refine And.intro ?_ ?_ | intro _))
      all_goals (try first | omega | assumption | contradiction)
      · rename_i h1 h2
        exact ⟨(i + 1, k + 1, l ++ [(0, a.getD i [])]), ⟨⟨by simp only; omega, by simp only; omega⟩, by simp, rfl⟩, ⟨by simp only; omega, by simp only; omega, by simp only [nx]; omega, by simp only; rw [i4, at_same hi hk h2, List.append_assoc]; rfl⟩, by simp only; omega⟩
      · rename_i h1 h2 h3
        have h4 : ¬ a.getD i [] = b.getD k [] := fun e => by rw [e] at h2; simp at h2
        have h5 := h3.resolve_left (by omega)
        exact ⟨(i + 1, k, l ++ [(1, a.getD i [])]), ⟨⟨by simp only; omega, by simp only⟩, by simp, rfl⟩, ⟨by simp only; omega, by simp only; omega, by simp only [nx]; omega, by simp only; rw [i4, at_gone hi hk h4 h5, List.append_assoc]; rfl⟩, by simp only; omega⟩
      · rename_i h1 h2 h3 h6
        have h4 : ¬ a.getD i [] = b.getD k [] := fun e => by rw [e] at h2; simp at h2
        have h5 : ¬ (lcs (a.drop i) (b.drop (k + 1)) : Int) ≤ (lcs (a.drop (i + 1)) (b.drop k) : Nat) := fun e => by rw [decide_eq_true e] at h6; simp at h6
        exact ⟨(i, k + 1, l ++ [(2, b.getD k [])]), ⟨⟨by simp only, by simp only; omega⟩, by simp, rfl⟩, ⟨by simp only; omega, by simp only; omega, by simp only [nx]; omega, by simp only; rw [i4, at_new hi hk h4 h5, List.append_assoc]; rfl⟩, by simp only; omega⟩
    · have hi' : ((i : Int) < a.length) = True := by simp; exact hi
      have hk' : ((k : Int) < b.length) = False := by simp; omega
      have hk2 : ((k : Int) = b.length) = True := by simp; omega
      have g1 : ∀ d, (tabL a b).getD (i + 1) d = _ := fun d => tabL_get (by omega) d
      have g0 : ∀ d, (tabL a b).getD i d = _ := fun d => tabL_get (by omega) d
      simp (config := {maxSteps := 2000000}) only [hi', hk', hk2, g0, g1, rowF_getI, decide_true, decide_false, Bool.and_false, Bool.false_and, Bool.true_and, Bool.not_true, T_specLines, Go.Proofs.Try.Dif.tb_specTable, go_sem, seval, pT, tb_put, tabAV_eq, tabL_len]
      (try simp (config := {maxSteps := 2000000}) only [hi', hk', rowF_len, gimp, impB, isT, map_ren_rw, go_sem, seval])
      exact ⟨by omega, by omega, by omega, (i + 1, k, l ++ [(1, a.getD i [])]), ⟨⟨by simp only; omega, by simp only⟩, by simp, rfl⟩, ⟨by simp only; omega, by simp only; omega, by simp only [List.length_append, List.length_cons, List.length_nil]; omega, by simp only; rw [i4, at_rest hi (by omega), List.append_assoc]; rfl⟩, by simp only; omega⟩
  · have hi' : ((i : Int) < a.length) = False := by simp; omega
    have g1 : (tabL a b).getD (i + 1) .nils = .nils := tabL_out (by omega)
    have g0 : ∀ d, (tabL a b).getD i d = _ := fun d => tabL_get (by omega) d
    simp (config := {maxSteps := 2000000}) only [hi', g0, g1, rowF_getI, decide_true, decide_false, Bool.and_false, Bool.false_and, Bool.true_and, Bool.not_true, T_specLines, Go.Proofs.Try.Dif.tb_specTable, go_sem, seval, pT, tb_put, tabAV_eq, tabL_len]
    (try simp (config := {maxSteps := 2000000}) only [hi', rowF_len, gimp, impB, isT, map_ren_rw, go_sem, seval])
    refine ⟨fun h => ⟨fun h2 => absurd h (by omega), fun _ => ⟨by omega, by omega, by omega, (i, k + 1, l ++ [(2, b.getD k [])]), ⟨⟨by simp only, by simp only; omega⟩, by simp, rfl⟩, ⟨by simp only; omega, by simp only; omega, by simp only [List.length_append, List.length_cons, List.length_nil]; omega, by simp only; rw [i4, at_add (by omega) (by omega), List.append_assoc]; rfl⟩, by simp only; omega⟩⟩, fun h => ?_⟩
    rw [i4, List.drop_eq_nil_of_le (show a.length ≤ i by omega), List.drop_eq_nil_of_le (show b.length ≤ k by omega), linesS_nn, List.append_nil, List.take_length]
def tb_specLines : List Blk → List AV → Option (List Blk × AV × Prop)
  | [], [a0, a1] => some ([], enc_rws (linesS (dec_strs a0) (dec_strs a1)), ((dec_strs a0).length ≤ 100000) ∧ ((dec_strs a1).length ≤ 100000) ∧ argOK a0 (enc_strs (dec_strs a0)) ∧ argOK a1 (enc_strs (dec_strs a1)))
  | _, _ => none
theorem tb_specLines_ok : ∀ E args E' res p, tb_specLines E args = some (E', res, p) → p → SpecE Try.prog 10 E args E' res := by
  intro E args E' res p h hp
  unfold tb_specLines at h
  split at h
  · simp only [Option.some.injEq, Prod.mk.injEq] at h
    obtain ⟨rfl, rfl, rfl⟩ := h
    exact SpecE.args (specLines _ _ hp.1 hp.2.1) (.cons hp.2.2.1 (.cons hp.2.2.2 .nil))
  · cases h
end Go.Proofs.Try.Dif
end
section
set_option linter.unusedVariables false
set_option linter.unusedSimpArgs false
namespace Go.Proofs.Try.Dif
open Go Go.Abs Go.Proofs Go.Mdl
def T_specLinesR : Tbl := fun g E args => (addT nilT 20 Go.Proofs.Try.Dif.tb_specLong) g E args
theorem T_specLinesR_ok : TblOK Try.prog T_specLinesR := (addT_ok nilT_ok (by decide +kernel) Go.Proofs.Try.Dif.tb_specLong_ok)
set_option maxRecDepth 100000 in
set_option maxHeartbeats 4000000 in
theorem specLinesR (a b : List (List UInt8)) (ha : a.length ≤ 100000) (hb : b.length ≤ 100000) : SpecE Try.prog 13 [] [enc_strs a, enc_strs b] [] (enc_rws (linesS a b)) := by
  refine specF0 (C := T_specLinesR) (wr := false) (D := fun _ => []) (U := fun _ => none) (res := [enc_rws (linesS a b)]) Try.Ty.mixed T_specLinesR_ok Try.func13 (nA := 2) (by decide +kernel) rfl (fun _ => rfl) ?_
  simp only [Try.f13, bodyOf, rlOf]
  rw [W_V]
  simp (config := {maxSteps := 2000000}) only [T_specLinesR, Go.Proofs.Try.Dif.tb_specLong, go_sem, seval]
  (try simp (config := {maxSteps := 2000000}) only [gimp, impB, isT, go_sem, seval])
  refine VL_inv (X := Nat × Nat × List Rw) (fun x => ⟨[(0, enc_strs (a.drop x.1)), (1, enc_strs (b.drop x.2.1)), (5, .ref 112 0 x.2.2.length x.2.2.length)], [(112, .cells 2 false (.agg [.int .i64 0, .str []]) (x.2.2.map enc_rw))]⟩)
    (fun x => x.1 ≤ a.length ∧ x.2.1 ≤ b.length ∧ x.2.2.length ≤ x.1 + x.2.1 ∧ linesS a b = x.2.2 ++ linesS (a.drop x.1) (b.drop x.2.1)) (fun x => (a.length - x.1) + (b.length - x.2.1)) (0, 0, []) ?_ ?_ ?_
  · simp only [T_specLinesR, Go.Proofs.Try.Dif.tb_specLong, go_sem, seval]
  · exact ⟨Nat.zero_le _, Nat.zero_le _, Nat.le_refl _, rfl⟩
  rintro ⟨i, k, l⟩ ⟨i1, i2, i3, i4⟩
  simp only at i1 i2 i3 i4
  simp (config := {maxSteps := 2000000}) only [T_specLinesR, Go.Proofs.Try.Dif.tb_specLong, go_sem, seval]
  (try simp (config := {maxSteps := 2000000}) only [gimp, impB, isT, go_sem, seval])
  have da : List.drop 1 (a.drop i) = a.drop (i + 1) := by rw [List.drop_drop]
  have db : List.drop 1 (b.drop k) = b.drop (k + 1) := by rw [List.drop_drop]
  have ga : (a.drop i).getD 0 [] = a.getD i [] := by simp [List.getD_eq_getElem?_getD]
  have gb : (b.drop k).getD 0 [] = b.getD k [] := by simp [List.getD_eq_getElem?_getD]
  have la : (a.drop i).length = a.length - i := List.length_drop ..
  have lb : (b.drop k).length = b.length - k := List.length_drop ..
  have nx : ∀ (n : Int) (s : List UInt8), (l ++ [(n, s)]).length = l.length + 1 := fun n s => by simp
  simp only [da, db, ga, gb, map_rw_snoc]
  (repeat' (first | refine And.intro ?_ ?_ | intro _))
  all_goals (try first | omega | assumption | contradiction)
  · rename_i h1 h2 h3 h4
    exact ⟨(i + 1, k + 1, l ++ [(0, a.getD i [])]), ⟨⟨rfl, rfl, by simp⟩, rfl⟩, ⟨by simp only; omega, by simp only; omega, by simp only [nx]; omega, by simp only; rw [i4, at_same (by omega) (by omega) h4, List.append_assoc]; rfl⟩, by simp only; omega⟩
  · rw [List.length_drop]; omega
  · rw [List.length_drop]; omega
  · rename_i h1 h2 h3
    rcases Nat.lt_or_ge k b.length with hk | hk
    · rcases h3 with h3 | ⟨h3, h5⟩
      · omega
      · have h4 : ¬ a.getD i [] = b.getD k [] := fun e => by
          have e1 : decide (0 < ((a.drop i).length : Int)) = true := by simp only [decide_eq_true_eq]; omega
          have e2 : decide (0 < ((b.drop k).length : Int)) = true := by simp only [decide_eq_true_eq]; omega
          rw [e1, e2, decide_eq_true e] at h2; simp at h2
        exact ⟨(i + 1, k, l ++ [(1, a.getD i [])]), ⟨⟨rfl, rfl, by simp⟩, rfl⟩, ⟨by simp only; omega, by simp only; omega, by simp only [nx]; omega, by simp only; rw [i4, at_gone (by omega) hk h4 h5, List.append_assoc]; rfl⟩, by simp only; omega⟩
    · exact ⟨(i + 1, k, l ++ [(1, a.getD i [])]), ⟨⟨rfl, rfl, by simp⟩, rfl⟩, ⟨by simp only; omega, by simp only; omega, by simp only [nx]; omega, by simp only; rw [i4, at_rest (by omega) hk, List.append_assoc]; rfl⟩, by simp only; omega⟩
  · rename_i h1 h2 h3 h6
    rcases Nat.lt_or_ge i a.length with hi | hi
    · have e1 : decide (0 < ((a.drop i).length : Int)) = true := by simp only [decide_eq_true_eq]; omega
      have e2 : decide (0 < ((b.drop k).length : Int)) = true := by simp only [decide_eq_true_eq]; omega
      have h4 : ¬ a.getD i [] = b.getD k [] := fun e => by
        rw [e1, e2, decide_eq_true e] at h2; simp at h2
      have h5 : ¬ (lcs (a.drop i) (b.drop (k + 1)) : Int) ≤ (lcs (a.drop (i + 1)) (b.drop k) : Nat) := fun e => by rw [e1, decide_eq_true e] at h6; simp at h6
      exact ⟨(i, k + 1, l ++ [(2, b.getD k [])]), ⟨⟨rfl, rfl, by simp⟩, rfl⟩, ⟨by simp only; omega, by simp only; omega, by simp only [nx]; omega, by simp only; rw [i4, at_new hi (by omega) h4 h5, List.append_assoc]; rfl⟩, by simp only; omega⟩
    · exact ⟨(i, k + 1, l ++ [(2, b.getD k [])]), ⟨⟨rfl, rfl, by simp⟩, rfl⟩, ⟨by simp only; omega, by simp only; omega, by simp only [nx]; omega, by simp only; rw [i4, at_add hi (by omega), List.append_assoc]; rfl⟩, by simp only; omega⟩
  · rw [i4, List.drop_eq_nil_of_le (show a.length ≤ i by omega), List.drop_eq_nil_of_le (show b.length ≤ k by omega), linesS_nn, List.append_nil, List.take_length]
def tb_specLinesR : List Blk → List AV → Option (List Blk × AV × Prop)
  | [], [a0, a1] => some ([], enc_rws (linesS (dec_strs a0) (dec_strs a1)), ((dec_strs a0).length ≤ 100000) ∧ ((dec_strs a1).length ≤ 100000) ∧ argOK a0 (enc_strs (dec_strs a0)) ∧ argOK a1 (enc_strs (dec_strs a1)))
  | _, _ => none
theorem tb_specLinesR_ok : ∀ E args E' res p, tb_specLinesR E args = some (E', res, p) → p → SpecE Try.prog 13 E args E' res := by
  intro E args E' res p h hp
  unfold tb_specLinesR at h
  split at h
  · simp only [Option.some.injEq, Prod.mk.injEq] at h
    obtain ⟨rfl, rfl, rfl⟩ := h
    exact SpecE.args (specLinesR _ _ hp.1 hp.2.1) (.cons hp.2.2.1 (.cons hp.2.2.2 .nil))
  · cases h
end Go.Proofs.Try.Dif
end
section
set_option linter.unusedVariables false
set_option linter.unusedSimpArgs false
namespace Go.Mdl
open Go Go.Abs
end Go.Mdl
namespace Go.Proofs.Try.Dif
open Go Go.Abs Go.Proofs Go.Mdl
def T_specSame : Tbl := fun g E args => nilT g E args
theorem T_specSame_ok : TblOK Try.prog T_specSame := nilT_ok
set_option maxRecDepth 100000 in
set_option maxHeartbeats 4000000 in
theorem specSame (a b : List Rw) (h : a.length ≤ 2147483647) : SpecE Try.prog 11 [] [enc_rws a, enc_rws b] [] (.bool (decide (a = b))) := by
  refine specF0 (C := T_specSame) (wr := false) (D := fun _ => []) (U := fun _ => none) (res := [.bool (decide (a = b))]) Try.Ty.mixed T_specSame_ok Try.func11 (nA := 2) (by decide +kernel) rfl (fun _ => rfl) ?_
  simp only [Try.f11, bodyOf, rlOf]
  rw [W_V]
  simp (config := {maxSteps := 2000000}) only [T_specSame, go_sem, seval]
  (try simp (config := {maxSteps := 2000000}) only [gimp, impB, isT, go_sem, seval])
  refine ⟨fun hne => ?_, fun heq => ?_⟩
  · symm; rw [decide_eq_false_iff_not]; rintro rfl; exact hne rfl
  have hl : a.length = b.length := by omega
  refine VL_inv (X := Nat) (fun x => ⟨[(0, enc_rws a), (1, enc_rws b), (12, .int .i64 a.length), (13, .int .i64 x)], []⟩) (fun x => x ≤ a.length ∧ a.take x = b.take x) (fun x => a.length - x) 0 ?_ ?_ ?_
  · simp only [go_sem, go_sem, seval]
    try rfl
  · exact ⟨Nat.zero_le _, by simp⟩
  rintro x ⟨hx, hn⟩
  simp (config := {maxSteps := 2000000}) only [T_specSame, go_sem, seval]
  (try simp (config := {maxSteps := 2000000}) only [gimp, impB, isT, go_sem, seval])
  refine ⟨fun hlt => ?_, fun hge => ?_⟩
  · obtain ⟨h1, h2⟩ := same_step (a := a) (b := b) (x := x) (0, []) hl (by omega) hn
    refine ⟨by omega, by omega, ⟨fun _ => by omega, fun _ => by omega⟩, ⟨fun _ => by omega, fun _ => by omega⟩, fun he => ?_, fun e1 e2 => ⟨by omega, x + 1, by omega, ⟨by omega, h1 (Prod.ext e1 e2)⟩, by omega⟩⟩
    have : a ≠ b := h2 (fun e => by rw [e] at he; simp at he)
    simp [this]
  · have : x = a.length := by omega
    subst this
    rw [List.take_length, hl, List.take_length] at hn
    simp [hn]
def tb_specSame : List Blk → List AV → Option (List Blk × AV × Prop)
  | [], [a0, a1] => some ([], .bool (decide ((dec_rws a0) = (dec_rws a1))), ((dec_rws a0).length ≤ 2147483647) ∧ argOK a0 (enc_rws (dec_rws a0)) ∧ argOK a1 (enc_rws (dec_rws a1)))
  | _, _ => none
theorem tb_specSame_ok : ∀ E args E' res p, tb_specSame E args = some (E', res, p) → p → SpecE Try.prog 11 E args E' res := by
  intro E args E' res p h hp
  unfold tb_specSame at h
  split at h
  · simp only [Option.some.injEq, Prod.mk.injEq] at h
    obtain ⟨rfl, rfl, rfl⟩ := h
    exact SpecE.args (specSame _ _ hp.1) (.cons hp.2.1 (.cons hp.2.2 .nil))
  · cases h
theorem lines_ex : linesS [[(97 : UInt8)], [98]] [[98], [99]] = [(1, [97]), (0, [98]), (2, [99])] := by
  simp [linesS_cc, linesS_nc, linesS_nn, lcs_cons, lcs_nil, lcs_nil']
def T_specLives : Tbl := fun g E args => (addT (addT nilT 10 Go.Proofs.Try.Dif.tb_specLines) 11 Go.Proofs.Try.Dif.tb_specSame) g E args
theorem T_specLives_ok : TblOK Try.prog T_specLives := (addT_ok (addT_ok nilT_ok (by decide +kernel) Go.Proofs.Try.Dif.tb_specLines_ok) (by decide +kernel) Go.Proofs.Try.Dif.tb_specSame_ok)
set_option maxRecDepth 100000 in
set_option maxHeartbeats 4000000 in
theorem specLives : SpecE Try.prog 5 [] [] [] (.bool true) := by
  refine specF0 (C := T_specLives) (wr := false) (D := fun _ => []) (U := fun _ => none) (res := [.bool true]) Try.Ty.mixed T_specLives_ok Try.func5 (nA := 0) (by decide +kernel) rfl (fun _ => rfl) ?_
  simp only [Try.f5, bodyOf, rlOf]
  rw [W_V]
  simp (config := {maxSteps := 2000000}) only [T_specLives, Go.Proofs.Try.Dif.tb_specLines, Go.Proofs.Try.Dif.tb_specSame, go_sem, seval]
  (try simp (config := {maxSteps := 2000000}) only [gimp, impB, isT, go_sem, seval])
  exact ⟨⟨by rw [lines_ex]; decide, rfl⟩, lines_ex⟩
def tb_specLives : List Blk → List AV → Option (List Blk × AV × Prop)
  | [], [] => some ([], .bool true, True)
  | _, _ => none
theorem tb_specLives_ok : ∀ E args E' res p, tb_specLives E args = some (E', res, p) → p → SpecE Try.prog 5 E args E' res := by
  intro E args E' res p h hp
  unfold tb_specLives at h
  split at h
  · simp only [Option.some.injEq, Prod.mk.injEq] at h
    obtain ⟨rfl, rfl, rfl⟩ := h
    exact specLives
  · cases h
end Go.Proofs.Try.Dif
end
