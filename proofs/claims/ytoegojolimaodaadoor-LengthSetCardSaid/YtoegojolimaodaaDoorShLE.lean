import Derived.Test.YtoegojolimaodaaDoorShLD
import Derived.Test.YtoegojolimaodaaDoorProg
import Derived.KernelRfl
import Derived.Lib.Bytealg
section
set_option linter.unusedVariables false
namespace Go.Proofs.Tryd.Ty
open Go Go.Abs Go.Proofs
theorem mixed : Tryd.prog.follows .mixedOrders = true := by kernel_rfl
theorem g1 : Tryd.prog.eqGuardType Tryd.prog.depth 1 = false := by kernel_rfl
theorem s1 : szT Tryd.prog 1 = some 1 := by kernel_rfl
theorem b1 : byT Tryd.prog 1 = some 8 := by kernel_rfl
theorem a1 : aggT Tryd.prog 1 = some false := by kernel_rfl
theorem z1 : zT Tryd.prog 1 = some (.nilf) := by kernel_rfl
theorem s2 : szT Tryd.prog 2 = some 1 := by kernel_rfl
theorem b2 : byT Tryd.prog 2 = some 8 := by kernel_rfl
theorem a2 : aggT Tryd.prog 2 = some false := by kernel_rfl
theorem z2 : zT Tryd.prog 2 = some (.int .i64 0) := by kernel_rfl
theorem s3 : szT Tryd.prog 3 = some 1 := by kernel_rfl
theorem b3 : byT Tryd.prog 3 = some 8 := by kernel_rfl
theorem a3 : aggT Tryd.prog 3 = some false := by kernel_rfl
theorem z3 : zT Tryd.prog 3 = some (.int .i64 0) := by kernel_rfl
theorem s4 : szT Tryd.prog 4 = some 1 := by kernel_rfl
theorem b4 : byT Tryd.prog 4 = some 1 := by kernel_rfl
theorem a4 : aggT Tryd.prog 4 = some false := by kernel_rfl
theorem z4 : zT Tryd.prog 4 = some (.bool false) := by kernel_rfl
theorem s5 : szT Tryd.prog 5 = some 1 := by kernel_rfl
theorem b5 : byT Tryd.prog 5 = some 1 := by kernel_rfl
theorem a5 : aggT Tryd.prog 5 = some false := by kernel_rfl
theorem z5 : zT Tryd.prog 5 = some (.int .u8 0) := by kernel_rfl
theorem s6 : szT Tryd.prog 6 = some 1 := by kernel_rfl
theorem b6 : byT Tryd.prog 6 = some 1 := by kernel_rfl
theorem a6 : aggT Tryd.prog 6 = some false := by kernel_rfl
theorem z6 : zT Tryd.prog 6 = some (.int .u8 0) := by kernel_rfl
theorem s7 : szT Tryd.prog 7 = some 4 := by kernel_rfl
theorem b7 : byT Tryd.prog 7 = some 24 := by kernel_rfl
theorem a7 : aggT Tryd.prog 7 = some true := by kernel_rfl
theorem g7 : Tryd.prog.eqGuardType Tryd.prog.depth 7 = false := by kernel_rfl
theorem h7 : Tryd.prog.stoodInHeld 7 = false := by kernel_rfl
theorem z7 : zT Tryd.prog 7 = some (.agg [.int .i64 0, .int .i64 0, .bool false, .int .u8 0]) := by kernel_rfl
theorem s8 : szT Tryd.prog 8 = some 4 := by kernel_rfl
theorem b8 : byT Tryd.prog 8 = some 24 := by kernel_rfl
theorem a8 : aggT Tryd.prog 8 = some true := by kernel_rfl
theorem g8 : Tryd.prog.eqGuardType Tryd.prog.depth 8 = false := by kernel_rfl
theorem h8 : Tryd.prog.stoodInHeld 8 = false := by kernel_rfl
theorem z8 : zT Tryd.prog 8 = some (.agg [.int .i64 0, .int .i64 0, .bool false, .int .u8 0]) := by kernel_rfl
theorem s9 : szT Tryd.prog 9 = some 1 := by kernel_rfl
theorem b9 : byT Tryd.prog 9 = some 16 := by kernel_rfl
theorem a9 : aggT Tryd.prog 9 = some false := by kernel_rfl
theorem z9 : zT Tryd.prog 9 = some (.str []) := by kernel_rfl
theorem s10 : szT Tryd.prog 10 = some 1 := by kernel_rfl
theorem b10 : byT Tryd.prog 10 = some 16 := by kernel_rfl
theorem a10 : aggT Tryd.prog 10 = some false := by kernel_rfl
theorem z10 : zT Tryd.prog 10 = some (.str []) := by kernel_rfl
theorem s11 : szT Tryd.prog 11 = some 1 := by kernel_rfl
theorem b11 : byT Tryd.prog 11 = some 16 := by kernel_rfl
theorem a11 : aggT Tryd.prog 11 = some false := by kernel_rfl
theorem z11 : zT Tryd.prog 11 = some (.str []) := by kernel_rfl
theorem s12 : szT Tryd.prog 12 = some 1 := by kernel_rfl
theorem b12 : byT Tryd.prog 12 = some 8 := by kernel_rfl
theorem a12 : aggT Tryd.prog 12 = some false := by kernel_rfl
theorem z12 : zT Tryd.prog 12 = some (.int .u64 0) := by kernel_rfl
theorem s13 : szT Tryd.prog 13 = some 2 := by kernel_rfl
theorem b13 : byT Tryd.prog 13 = some 24 := by kernel_rfl
theorem a13 : aggT Tryd.prog 13 = some true := by kernel_rfl
theorem z13 : zT Tryd.prog 13 = some (.agg [.str [], .int .u64 0]) := by kernel_rfl
theorem s14 : szT Tryd.prog 14 = some 2 := by kernel_rfl
theorem b14 : byT Tryd.prog 14 = some 24 := by kernel_rfl
theorem a14 : aggT Tryd.prog 14 = some true := by kernel_rfl
theorem z14 : zT Tryd.prog 14 = some (.agg [.str [], .int .u64 0]) := by kernel_rfl
theorem g15 : Tryd.prog.eqGuardType Tryd.prog.depth 15 = false := by kernel_rfl
theorem s15 : szT Tryd.prog 15 = some 1 := by kernel_rfl
theorem b15 : byT Tryd.prog 15 = some 8 := by kernel_rfl
theorem a15 : aggT Tryd.prog 15 = some false := by kernel_rfl
theorem z15 : zT Tryd.prog 15 = some (.nilp) := by kernel_rfl
theorem g16 : Tryd.prog.eqGuardType Tryd.prog.depth 16 = false := by kernel_rfl
theorem s16 : szT Tryd.prog 16 = some 1 := by kernel_rfl
theorem b16 : byT Tryd.prog 16 = some 8 := by kernel_rfl
theorem a16 : aggT Tryd.prog 16 = some false := by kernel_rfl
theorem z16 : zT Tryd.prog 16 = some (.nilp) := by kernel_rfl
theorem g17 : Tryd.prog.eqGuardType Tryd.prog.depth 17 = false := by kernel_rfl
theorem s17 : szT Tryd.prog 17 = some 1 := by kernel_rfl
theorem b17 : byT Tryd.prog 17 = some 8 := by kernel_rfl
theorem a17 : aggT Tryd.prog 17 = some false := by kernel_rfl
theorem z17 : zT Tryd.prog 17 = some (.nilp) := by kernel_rfl
theorem s18 : szT Tryd.prog 18 = some 1 := by kernel_rfl
theorem b18 : byT Tryd.prog 18 = some 8 := by kernel_rfl
theorem a18 : aggT Tryd.prog 18 = some true := by kernel_rfl
theorem z18 : zT Tryd.prog 18 = some (.agg [.nilp]) := by kernel_rfl
theorem s19 : szT Tryd.prog 19 = some 1 := by kernel_rfl
theorem b19 : byT Tryd.prog 19 = some 8 := by kernel_rfl
theorem a19 : aggT Tryd.prog 19 = some true := by kernel_rfl
theorem z19 : zT Tryd.prog 19 = some (.agg [.nilp]) := by kernel_rfl
theorem s20 : szT Tryd.prog 20 = some 1 := by kernel_rfl
theorem b20 : byT Tryd.prog 20 = some 16 := by kernel_rfl
theorem a20 : aggT Tryd.prog 20 = some false := by kernel_rfl
theorem z20 : zT Tryd.prog 20 = some (.nili) := by kernel_rfl
theorem s21 : szT Tryd.prog 21 = some 1 := by kernel_rfl
theorem b21 : byT Tryd.prog 21 = some 4 := by kernel_rfl
theorem a21 : aggT Tryd.prog 21 = some false := by kernel_rfl
theorem z21 : zT Tryd.prog 21 = some (.int .i32 0) := by kernel_rfl
theorem g22 : Tryd.prog.eqGuardType Tryd.prog.depth 22 = false := by kernel_rfl
theorem s22 : szT Tryd.prog 22 = some 1 := by kernel_rfl
theorem b22 : byT Tryd.prog 22 = some 24 := by kernel_rfl
theorem a22 : aggT Tryd.prog 22 = some false := by kernel_rfl
theorem z22 : zT Tryd.prog 22 = some (.nils) := by kernel_rfl
theorem g23 : Tryd.prog.eqGuardType Tryd.prog.depth 23 = false := by kernel_rfl
theorem s23 : szT Tryd.prog 23 = some 1 := by kernel_rfl
theorem b23 : byT Tryd.prog 23 = some 8 := by kernel_rfl
theorem a23 : aggT Tryd.prog 23 = some false := by kernel_rfl
theorem z23 : zT Tryd.prog 23 = some (.nilf) := by kernel_rfl
theorem g24 : Tryd.prog.eqGuardType Tryd.prog.depth 24 = false := by kernel_rfl
theorem s24 : szT Tryd.prog 24 = some 1 := by kernel_rfl
theorem b24 : byT Tryd.prog 24 = some 8 := by kernel_rfl
theorem a24 : aggT Tryd.prog 24 = some false := by kernel_rfl
theorem z24 : zT Tryd.prog 24 = some (.nilf) := by kernel_rfl
theorem s25 : szT Tryd.prog 25 = some 1 := by kernel_rfl
theorem b25 : byT Tryd.prog 25 = some 8 := by kernel_rfl
theorem a25 : aggT Tryd.prog 25 = some false := by kernel_rfl
theorem z25 : zT Tryd.prog 25 = some (.int .i64 0) := by kernel_rfl
theorem g27 : Tryd.prog.eqGuardType Tryd.prog.depth 27 = false := by kernel_rfl
theorem s27 : szT Tryd.prog 27 = some 1 := by kernel_rfl
theorem b27 : byT Tryd.prog 27 = some 8 := by kernel_rfl
theorem a27 : aggT Tryd.prog 27 = some false := by kernel_rfl
theorem z27 : zT Tryd.prog 27 = some (.nilf) := by kernel_rfl
theorem g28 : Tryd.prog.eqGuardType Tryd.prog.depth 28 = false := by kernel_rfl
theorem s28 : szT Tryd.prog 28 = some 1 := by kernel_rfl
theorem b28 : byT Tryd.prog 28 = some 8 := by kernel_rfl
theorem a28 : aggT Tryd.prog 28 = some false := by kernel_rfl
theorem z28 : zT Tryd.prog 28 = some (.nilf) := by kernel_rfl
theorem g29 : Tryd.prog.eqGuardType Tryd.prog.depth 29 = false := by kernel_rfl
theorem s29 : szT Tryd.prog 29 = some 1 := by kernel_rfl
theorem b29 : byT Tryd.prog 29 = some 8 := by kernel_rfl
theorem a29 : aggT Tryd.prog 29 = some false := by kernel_rfl
theorem z29 : zT Tryd.prog 29 = some (.nilf) := by kernel_rfl
theorem g30 : Tryd.prog.eqGuardType Tryd.prog.depth 30 = false := by kernel_rfl
theorem s30 : szT Tryd.prog 30 = some 1 := by kernel_rfl
theorem b30 : byT Tryd.prog 30 = some 8 := by kernel_rfl
theorem a30 : aggT Tryd.prog 30 = some false := by kernel_rfl
theorem z30 : zT Tryd.prog 30 = some (.nilf) := by kernel_rfl
theorem g31 : Tryd.prog.eqGuardType Tryd.prog.depth 31 = false := by kernel_rfl
theorem s31 : szT Tryd.prog 31 = some 1 := by kernel_rfl
theorem b31 : byT Tryd.prog 31 = some 8 := by kernel_rfl
theorem a31 : aggT Tryd.prog 31 = some false := by kernel_rfl
theorem z31 : zT Tryd.prog 31 = some (.nilf) := by kernel_rfl
theorem g33 : Tryd.prog.eqGuardType Tryd.prog.depth 33 = false := by kernel_rfl
theorem s33 : szT Tryd.prog 33 = some 1 := by kernel_rfl
theorem b33 : byT Tryd.prog 33 = some 8 := by kernel_rfl
theorem a33 : aggT Tryd.prog 33 = some false := by kernel_rfl
theorem z33 : zT Tryd.prog 33 = some (.nilf) := by kernel_rfl
theorem g34 : Tryd.prog.eqGuardType Tryd.prog.depth 34 = false := by kernel_rfl
theorem s34 : szT Tryd.prog 34 = some 1 := by kernel_rfl
theorem b34 : byT Tryd.prog 34 = some 8 := by kernel_rfl
theorem a34 : aggT Tryd.prog 34 = some false := by kernel_rfl
theorem z34 : zT Tryd.prog 34 = some (.nilf) := by kernel_rfl
theorem g35 : Tryd.prog.eqGuardType Tryd.prog.depth 35 = false := by kernel_rfl
theorem s35 : szT Tryd.prog 35 = some 1 := by kernel_rfl
theorem b35 : byT Tryd.prog 35 = some 8 := by kernel_rfl
theorem a35 : aggT Tryd.prog 35 = some false := by kernel_rfl
theorem z35 : zT Tryd.prog 35 = some (.nilf) := by kernel_rfl
theorem s36 : szT Tryd.prog 36 = some 2 := by kernel_rfl
theorem b36 : byT Tryd.prog 36 = some 32 := by kernel_rfl
theorem a36 : aggT Tryd.prog 36 = some true := by kernel_rfl
theorem g36 : Tryd.prog.eqGuardType Tryd.prog.depth 36 = false := by kernel_rfl
theorem h36 : Tryd.prog.stoodInHeld 36 = false := by kernel_rfl
theorem z36 : zT Tryd.prog 36 = some (.agg [.str [], .str []]) := by kernel_rfl
theorem s37 : szT Tryd.prog 37 = some 2 := by kernel_rfl
theorem b37 : byT Tryd.prog 37 = some 32 := by kernel_rfl
theorem a37 : aggT Tryd.prog 37 = some true := by kernel_rfl
theorem g37 : Tryd.prog.eqGuardType Tryd.prog.depth 37 = false := by kernel_rfl
theorem h37 : Tryd.prog.stoodInHeld 37 = false := by kernel_rfl
theorem z37 : zT Tryd.prog 37 = some (.agg [.str [], .str []]) := by kernel_rfl
theorem g38 : Tryd.prog.eqGuardType Tryd.prog.depth 38 = false := by kernel_rfl
theorem s38 : szT Tryd.prog 38 = some 1 := by kernel_rfl
theorem b38 : byT Tryd.prog 38 = some 8 := by kernel_rfl
theorem a38 : aggT Tryd.prog 38 = some false := by kernel_rfl
theorem z38 : zT Tryd.prog 38 = some (.nilf) := by kernel_rfl
theorem g39 : Tryd.prog.eqGuardType Tryd.prog.depth 39 = false := by kernel_rfl
theorem s39 : szT Tryd.prog 39 = some 1 := by kernel_rfl
theorem b39 : byT Tryd.prog 39 = some 8 := by kernel_rfl
theorem a39 : aggT Tryd.prog 39 = some false := by kernel_rfl
theorem z39 : zT Tryd.prog 39 = some (.nilf) := by kernel_rfl
theorem g40 : Tryd.prog.eqGuardType Tryd.prog.depth 40 = false := by kernel_rfl
theorem s40 : szT Tryd.prog 40 = some 1 := by kernel_rfl
theorem b40 : byT Tryd.prog 40 = some 8 := by kernel_rfl
theorem a40 : aggT Tryd.prog 40 = some false := by kernel_rfl
theorem z40 : zT Tryd.prog 40 = some (.nilf) := by kernel_rfl
theorem g41 : Tryd.prog.eqGuardType Tryd.prog.depth 41 = false := by kernel_rfl
theorem s41 : szT Tryd.prog 41 = some 1 := by kernel_rfl
theorem b41 : byT Tryd.prog 41 = some 24 := by kernel_rfl
theorem a41 : aggT Tryd.prog 41 = some false := by kernel_rfl
theorem z41 : zT Tryd.prog 41 = some (.nils) := by kernel_rfl
theorem g42 : Tryd.prog.eqGuardType Tryd.prog.depth 42 = false := by kernel_rfl
theorem s42 : szT Tryd.prog 42 = some 1 := by kernel_rfl
theorem b42 : byT Tryd.prog 42 = some 8 := by kernel_rfl
theorem a42 : aggT Tryd.prog 42 = some false := by kernel_rfl
theorem z42 : zT Tryd.prog 42 = some (.nilf) := by kernel_rfl
theorem g44 : Tryd.prog.eqGuardType Tryd.prog.depth 44 = false := by kernel_rfl
theorem s44 : szT Tryd.prog 44 = some 1 := by kernel_rfl
theorem b44 : byT Tryd.prog 44 = some 8 := by kernel_rfl
theorem a44 : aggT Tryd.prog 44 = some false := by kernel_rfl
theorem z44 : zT Tryd.prog 44 = some (.nilf) := by kernel_rfl
theorem g45 : Tryd.prog.eqGuardType Tryd.prog.depth 45 = false := by kernel_rfl
theorem s45 : szT Tryd.prog 45 = some 1 := by kernel_rfl
theorem b45 : byT Tryd.prog 45 = some 8 := by kernel_rfl
theorem a45 : aggT Tryd.prog 45 = some false := by kernel_rfl
theorem z45 : zT Tryd.prog 45 = some (.nilf) := by kernel_rfl
theorem g46 : Tryd.prog.eqGuardType Tryd.prog.depth 46 = false := by kernel_rfl
theorem s46 : szT Tryd.prog 46 = some 1 := by kernel_rfl
theorem b46 : byT Tryd.prog 46 = some 8 := by kernel_rfl
theorem a46 : aggT Tryd.prog 46 = some false := by kernel_rfl
theorem z46 : zT Tryd.prog 46 = some (.nilf) := by kernel_rfl
theorem g47 : Tryd.prog.eqGuardType Tryd.prog.depth 47 = false := by kernel_rfl
theorem s47 : szT Tryd.prog 47 = some 1 := by kernel_rfl
theorem b47 : byT Tryd.prog 47 = some 8 := by kernel_rfl
theorem a47 : aggT Tryd.prog 47 = some false := by kernel_rfl
theorem z47 : zT Tryd.prog 47 = some (.nilf) := by kernel_rfl
theorem g48 : Tryd.prog.eqGuardType Tryd.prog.depth 48 = false := by kernel_rfl
theorem s48 : szT Tryd.prog 48 = some 1 := by kernel_rfl
theorem b48 : byT Tryd.prog 48 = some 8 := by kernel_rfl
theorem a48 : aggT Tryd.prog 48 = some false := by kernel_rfl
theorem z48 : zT Tryd.prog 48 = some (.nilf) := by kernel_rfl
theorem g49 : Tryd.prog.eqGuardType Tryd.prog.depth 49 = false := by kernel_rfl
theorem s49 : szT Tryd.prog 49 = some 1 := by kernel_rfl
theorem b49 : byT Tryd.prog 49 = some 8 := by kernel_rfl
theorem a49 : aggT Tryd.prog 49 = some false := by kernel_rfl
theorem z49 : zT Tryd.prog 49 = some (.nilf) := by kernel_rfl
theorem g50 : Tryd.prog.eqGuardType Tryd.prog.depth 50 = false := by kernel_rfl
theorem s50 : szT Tryd.prog 50 = some 1 := by kernel_rfl
theorem b50 : byT Tryd.prog 50 = some 8 := by kernel_rfl
theorem a50 : aggT Tryd.prog 50 = some false := by kernel_rfl
theorem z50 : zT Tryd.prog 50 = some (.nilf) := by kernel_rfl
theorem g51 : Tryd.prog.eqGuardType Tryd.prog.depth 51 = false := by kernel_rfl
theorem s51 : szT Tryd.prog 51 = some 1 := by kernel_rfl
theorem b51 : byT Tryd.prog 51 = some 8 := by kernel_rfl
theorem a51 : aggT Tryd.prog 51 = some false := by kernel_rfl
theorem z51 : zT Tryd.prog 51 = some (.nilf) := by kernel_rfl
theorem g52 : Tryd.prog.eqGuardType Tryd.prog.depth 52 = false := by kernel_rfl
theorem s52 : szT Tryd.prog 52 = some 1 := by kernel_rfl
theorem b52 : byT Tryd.prog 52 = some 24 := by kernel_rfl
theorem a52 : aggT Tryd.prog 52 = some false := by kernel_rfl
theorem z52 : zT Tryd.prog 52 = some (.nils) := by kernel_rfl
theorem g53 : Tryd.prog.eqGuardType Tryd.prog.depth 53 = false := by kernel_rfl
theorem s53 : szT Tryd.prog 53 = some 1 := by kernel_rfl
theorem b53 : byT Tryd.prog 53 = some 8 := by kernel_rfl
theorem a53 : aggT Tryd.prog 53 = some false := by kernel_rfl
theorem z53 : zT Tryd.prog 53 = some (.nilf) := by kernel_rfl
theorem g54 : Tryd.prog.eqGuardType Tryd.prog.depth 54 = false := by kernel_rfl
theorem s54 : szT Tryd.prog 54 = some 1 := by kernel_rfl
theorem b54 : byT Tryd.prog 54 = some 8 := by kernel_rfl
theorem a54 : aggT Tryd.prog 54 = some false := by kernel_rfl
theorem z54 : zT Tryd.prog 54 = some (.nilp) := by kernel_rfl
theorem s55 : szT Tryd.prog 55 = some 2 := by kernel_rfl
theorem b55 : byT Tryd.prog 55 = some 32 := by kernel_rfl
theorem a55 : aggT Tryd.prog 55 = some true := by kernel_rfl
theorem z55 : zT Tryd.prog 55 = some (.agg [.nilp, .nils]) := by kernel_rfl
theorem s56 : szT Tryd.prog 56 = some 2 := by kernel_rfl
theorem b56 : byT Tryd.prog 56 = some 32 := by kernel_rfl
theorem a56 : aggT Tryd.prog 56 = some true := by kernel_rfl
theorem z56 : zT Tryd.prog 56 = some (.agg [.nilp, .nils]) := by kernel_rfl
theorem s57 : szT Tryd.prog 57 = some 1 := by kernel_rfl
theorem b57 : byT Tryd.prog 57 = some 16 := by kernel_rfl
theorem a57 : aggT Tryd.prog 57 = some false := by kernel_rfl
theorem z57 : zT Tryd.prog 57 = some (.nili) := by kernel_rfl
theorem s58 : szT Tryd.prog 58 = some 1 := by kernel_rfl
theorem b58 : byT Tryd.prog 58 = some 16 := by kernel_rfl
theorem a58 : aggT Tryd.prog 58 = some false := by kernel_rfl
theorem z58 : zT Tryd.prog 58 = some (.nili) := by kernel_rfl
theorem g60 : Tryd.prog.eqGuardType Tryd.prog.depth 60 = false := by kernel_rfl
theorem s60 : szT Tryd.prog 60 = some 1 := by kernel_rfl
theorem b60 : byT Tryd.prog 60 = some 8 := by kernel_rfl
theorem a60 : aggT Tryd.prog 60 = some false := by kernel_rfl
theorem z60 : zT Tryd.prog 60 = some (.nilf) := by kernel_rfl
theorem g61 : Tryd.prog.eqGuardType Tryd.prog.depth 61 = false := by kernel_rfl
theorem s61 : szT Tryd.prog 61 = some 1 := by kernel_rfl
theorem b61 : byT Tryd.prog 61 = some 8 := by kernel_rfl
theorem a61 : aggT Tryd.prog 61 = some false := by kernel_rfl
theorem z61 : zT Tryd.prog 61 = some (.nilf) := by kernel_rfl
theorem g62 : Tryd.prog.eqGuardType Tryd.prog.depth 62 = false := by kernel_rfl
theorem s62 : szT Tryd.prog 62 = some 1 := by kernel_rfl
theorem b62 : byT Tryd.prog 62 = some 8 := by kernel_rfl
theorem a62 : aggT Tryd.prog 62 = some false := by kernel_rfl
theorem z62 : zT Tryd.prog 62 = some (.nilf) := by kernel_rfl
theorem g63 : Tryd.prog.eqGuardType Tryd.prog.depth 63 = false := by kernel_rfl
theorem s63 : szT Tryd.prog 63 = some 1 := by kernel_rfl
theorem b63 : byT Tryd.prog 63 = some 8 := by kernel_rfl
theorem a63 : aggT Tryd.prog 63 = some false := by kernel_rfl
theorem z63 : zT Tryd.prog 63 = some (.nilf) := by kernel_rfl
theorem g64 : Tryd.prog.eqGuardType Tryd.prog.depth 64 = false := by kernel_rfl
theorem s64 : szT Tryd.prog 64 = some 1 := by kernel_rfl
theorem b64 : byT Tryd.prog 64 = some 8 := by kernel_rfl
theorem a64 : aggT Tryd.prog 64 = some false := by kernel_rfl
theorem z64 : zT Tryd.prog 64 = some (.nilf) := by kernel_rfl
theorem g65 : Tryd.prog.eqGuardType Tryd.prog.depth 65 = false := by kernel_rfl
theorem s65 : szT Tryd.prog 65 = some 1 := by kernel_rfl
theorem b65 : byT Tryd.prog 65 = some 8 := by kernel_rfl
theorem a65 : aggT Tryd.prog 65 = some false := by kernel_rfl
theorem z65 : zT Tryd.prog 65 = some (.nilf) := by kernel_rfl
theorem s66 : szT Tryd.prog 66 = some 1 := by kernel_rfl
theorem b66 : byT Tryd.prog 66 = some 8 := by kernel_rfl
theorem a66 : aggT Tryd.prog 66 = some false := by kernel_rfl
theorem z66 : zT Tryd.prog 66 = some (.int .u64 0) := by kernel_rfl
theorem s67 : szT Tryd.prog 67 = some 5 := by kernel_rfl
theorem b67 : byT Tryd.prog 67 = some 40 := by kernel_rfl
theorem a67 : aggT Tryd.prog 67 = some true := by kernel_rfl
theorem g67 : Tryd.prog.eqGuardType Tryd.prog.depth 67 = false := by kernel_rfl
theorem h67 : Tryd.prog.stoodInHeld 67 = false := by kernel_rfl
theorem z67 : zT Tryd.prog 67 = some (.agg [.int .i64 0, .int .i64 0, .int .i64 0, .int .i64 0, .int .i64 0]) := by kernel_rfl
theorem s68 : szT Tryd.prog 68 = some 5 := by kernel_rfl
theorem b68 : byT Tryd.prog 68 = some 40 := by kernel_rfl
theorem a68 : aggT Tryd.prog 68 = some true := by kernel_rfl
theorem g68 : Tryd.prog.eqGuardType Tryd.prog.depth 68 = false := by kernel_rfl
theorem h68 : Tryd.prog.stoodInHeld 68 = false := by kernel_rfl
theorem z68 : zT Tryd.prog 68 = some (.agg [.int .i64 0, .int .i64 0, .int .i64 0, .int .i64 0, .int .i64 0]) := by kernel_rfl
theorem s69 : szT Tryd.prog 69 = some 18 := by kernel_rfl
theorem b69 : byT Tryd.prog 69 = some 160 := by kernel_rfl
theorem a69 : aggT Tryd.prog 69 = some true := by kernel_rfl
theorem g69 : Tryd.prog.eqGuardType Tryd.prog.depth 69 = false := by kernel_rfl
theorem h69 : Tryd.prog.stoodInHeld 69 = false := by kernel_rfl
theorem z69 : zT Tryd.prog 69 = some (.agg [.str [], .str [], .int .i64 0, .int .i64 0, .int .i64 0, .int .i64 0, .int .i64 0, .int .i64 0, .int .i64 0, .int .i64 0, .int .i64 0, .int .i64 0, .int .i64 0, .int .i64 0, .int .i64 0, .int .i64 0, .int .i64 0, .int .i64 0]) := by kernel_rfl
theorem s70 : szT Tryd.prog 70 = some 18 := by kernel_rfl
theorem b70 : byT Tryd.prog 70 = some 160 := by kernel_rfl
theorem a70 : aggT Tryd.prog 70 = some true := by kernel_rfl
theorem g70 : Tryd.prog.eqGuardType Tryd.prog.depth 70 = false := by kernel_rfl
theorem h70 : Tryd.prog.stoodInHeld 70 = false := by kernel_rfl
theorem z70 : zT Tryd.prog 70 = some (.agg [.str [], .str [], .int .i64 0, .int .i64 0, .int .i64 0, .int .i64 0, .int .i64 0, .int .i64 0, .int .i64 0, .int .i64 0, .int .i64 0, .int .i64 0, .int .i64 0, .int .i64 0, .int .i64 0, .int .i64 0, .int .i64 0, .int .i64 0]) := by kernel_rfl
theorem g71 : Tryd.prog.eqGuardType Tryd.prog.depth 71 = false := by kernel_rfl
theorem s71 : szT Tryd.prog 71 = some 1 := by kernel_rfl
theorem b71 : byT Tryd.prog 71 = some 24 := by kernel_rfl
theorem a71 : aggT Tryd.prog 71 = some false := by kernel_rfl
theorem z71 : zT Tryd.prog 71 = some (.nils) := by kernel_rfl
theorem s72 : szT Tryd.prog 72 = some 20 := by kernel_rfl
theorem b72 : byT Tryd.prog 72 = some 192 := by kernel_rfl
theorem a72 : aggT Tryd.prog 72 = some true := by kernel_rfl
theorem z72 : zT Tryd.prog 72 = some (.agg [.str [], .str [], .int .i64 0, .int .i64 0, .int .i64 0, .int .i64 0, .int .i64 0, .int .i64 0, .int .i64 0, .int .i64 0, .int .i64 0, .int .i64 0, .int .i64 0, .int .i64 0, .int .i64 0, .int .i64 0, .int .i64 0, .int .i64 0, .int .i64 0, .nils]) := by kernel_rfl
theorem s73 : szT Tryd.prog 73 = some 20 := by kernel_rfl
theorem b73 : byT Tryd.prog 73 = some 192 := by kernel_rfl
theorem a73 : aggT Tryd.prog 73 = some true := by kernel_rfl
theorem z73 : zT Tryd.prog 73 = some (.agg [.str [], .str [], .int .i64 0, .int .i64 0, .int .i64 0, .int .i64 0, .int .i64 0, .int .i64 0, .int .i64 0, .int .i64 0, .int .i64 0, .int .i64 0, .int .i64 0, .int .i64 0, .int .i64 0, .int .i64 0, .int .i64 0, .int .i64 0, .int .i64 0, .nils]) := by kernel_rfl
theorem g75 : Tryd.prog.eqGuardType Tryd.prog.depth 75 = false := by kernel_rfl
theorem s75 : szT Tryd.prog 75 = some 1 := by kernel_rfl
theorem b75 : byT Tryd.prog 75 = some 8 := by kernel_rfl
theorem a75 : aggT Tryd.prog 75 = some false := by kernel_rfl
theorem z75 : zT Tryd.prog 75 = some (.nilf) := by kernel_rfl
theorem g76 : Tryd.prog.eqGuardType Tryd.prog.depth 76 = false := by kernel_rfl
theorem s76 : szT Tryd.prog 76 = some 1 := by kernel_rfl
theorem b76 : byT Tryd.prog 76 = some 8 := by kernel_rfl
theorem a76 : aggT Tryd.prog 76 = some false := by kernel_rfl
theorem z76 : zT Tryd.prog 76 = some (.nilf) := by kernel_rfl
theorem g77 : Tryd.prog.eqGuardType Tryd.prog.depth 77 = false := by kernel_rfl
theorem s77 : szT Tryd.prog 77 = some 1 := by kernel_rfl
theorem b77 : byT Tryd.prog 77 = some 8 := by kernel_rfl
theorem a77 : aggT Tryd.prog 77 = some false := by kernel_rfl
theorem z77 : zT Tryd.prog 77 = some (.nilf) := by kernel_rfl
theorem s78 : szT Tryd.prog 78 = some 2 := by kernel_rfl
theorem b78 : byT Tryd.prog 78 = some 16 := by kernel_rfl
theorem a78 : aggT Tryd.prog 78 = some true := by kernel_rfl
theorem g78 : Tryd.prog.eqGuardType Tryd.prog.depth 78 = false := by kernel_rfl
theorem h78 : Tryd.prog.stoodInHeld 78 = false := by kernel_rfl
theorem z78 : zT Tryd.prog 78 = some (.agg [.int .i64 0, .int .i64 0]) := by kernel_rfl
theorem s79 : szT Tryd.prog 79 = some 2 := by kernel_rfl
theorem b79 : byT Tryd.prog 79 = some 16 := by kernel_rfl
theorem a79 : aggT Tryd.prog 79 = some true := by kernel_rfl
theorem g79 : Tryd.prog.eqGuardType Tryd.prog.depth 79 = false := by kernel_rfl
theorem h79 : Tryd.prog.stoodInHeld 79 = false := by kernel_rfl
theorem z79 : zT Tryd.prog 79 = some (.agg [.int .i64 0, .int .i64 0]) := by kernel_rfl
theorem s80 : szT Tryd.prog 80 = some 5 := by kernel_rfl
theorem b80 : byT Tryd.prog 80 = some 48 := by kernel_rfl
theorem a80 : aggT Tryd.prog 80 = some true := by kernel_rfl
theorem g80 : Tryd.prog.eqGuardType Tryd.prog.depth 80 = false := by kernel_rfl
theorem h80 : Tryd.prog.stoodInHeld 80 = false := by kernel_rfl
theorem z80 : zT Tryd.prog 80 = some (.agg [.int .i64 0, .int .i64 0, .int .i64 0, .int .i64 0, .str []]) := by kernel_rfl
theorem s81 : szT Tryd.prog 81 = some 5 := by kernel_rfl
theorem b81 : byT Tryd.prog 81 = some 48 := by kernel_rfl
theorem a81 : aggT Tryd.prog 81 = some true := by kernel_rfl
theorem g81 : Tryd.prog.eqGuardType Tryd.prog.depth 81 = false := by kernel_rfl
theorem h81 : Tryd.prog.stoodInHeld 81 = false := by kernel_rfl
theorem z81 : zT Tryd.prog 81 = some (.agg [.int .i64 0, .int .i64 0, .int .i64 0, .int .i64 0, .str []]) := by kernel_rfl
theorem g82 : Tryd.prog.eqGuardType Tryd.prog.depth 82 = false := by kernel_rfl
theorem s82 : szT Tryd.prog 82 = some 1 := by kernel_rfl
theorem b82 : byT Tryd.prog 82 = some 8 := by kernel_rfl
theorem a82 : aggT Tryd.prog 82 = some false := by kernel_rfl
theorem z82 : zT Tryd.prog 82 = some (.nilf) := by kernel_rfl
theorem g83 : Tryd.prog.eqGuardType Tryd.prog.depth 83 = false := by kernel_rfl
theorem s83 : szT Tryd.prog 83 = some 1 := by kernel_rfl
theorem b83 : byT Tryd.prog 83 = some 8 := by kernel_rfl
theorem a83 : aggT Tryd.prog 83 = some false := by kernel_rfl
theorem z83 : zT Tryd.prog 83 = some (.nilf) := by kernel_rfl
theorem g84 : Tryd.prog.eqGuardType Tryd.prog.depth 84 = false := by kernel_rfl
theorem s84 : szT Tryd.prog 84 = some 1 := by kernel_rfl
theorem b84 : byT Tryd.prog 84 = some 8 := by kernel_rfl
theorem a84 : aggT Tryd.prog 84 = some false := by kernel_rfl
theorem z84 : zT Tryd.prog 84 = some (.nilf) := by kernel_rfl
theorem g85 : Tryd.prog.eqGuardType Tryd.prog.depth 85 = false := by kernel_rfl
theorem s85 : szT Tryd.prog 85 = some 1 := by kernel_rfl
theorem b85 : byT Tryd.prog 85 = some 8 := by kernel_rfl
theorem a85 : aggT Tryd.prog 85 = some false := by kernel_rfl
theorem z85 : zT Tryd.prog 85 = some (.nilf) := by kernel_rfl
theorem g86 : Tryd.prog.eqGuardType Tryd.prog.depth 86 = false := by kernel_rfl
theorem s86 : szT Tryd.prog 86 = some 1 := by kernel_rfl
theorem b86 : byT Tryd.prog 86 = some 8 := by kernel_rfl
theorem a86 : aggT Tryd.prog 86 = some false := by kernel_rfl
theorem z86 : zT Tryd.prog 86 = some (.nilf) := by kernel_rfl
theorem g87 : Tryd.prog.eqGuardType Tryd.prog.depth 87 = false := by kernel_rfl
theorem s87 : szT Tryd.prog 87 = some 1 := by kernel_rfl
theorem b87 : byT Tryd.prog 87 = some 8 := by kernel_rfl
theorem a87 : aggT Tryd.prog 87 = some false := by kernel_rfl
theorem z87 : zT Tryd.prog 87 = some (.nilf) := by kernel_rfl
theorem g88 : Tryd.prog.eqGuardType Tryd.prog.depth 88 = false := by kernel_rfl
theorem s88 : szT Tryd.prog 88 = some 1 := by kernel_rfl
theorem b88 : byT Tryd.prog 88 = some 8 := by kernel_rfl
theorem a88 : aggT Tryd.prog 88 = some false := by kernel_rfl
theorem z88 : zT Tryd.prog 88 = some (.nilf) := by kernel_rfl
theorem g89 : Tryd.prog.eqGuardType Tryd.prog.depth 89 = false := by kernel_rfl
theorem s89 : szT Tryd.prog 89 = some 1 := by kernel_rfl
theorem b89 : byT Tryd.prog 89 = some 8 := by kernel_rfl
theorem a89 : aggT Tryd.prog 89 = some false := by kernel_rfl
theorem z89 : zT Tryd.prog 89 = some (.nilf) := by kernel_rfl
theorem g90 : Tryd.prog.eqGuardType Tryd.prog.depth 90 = false := by kernel_rfl
theorem s90 : szT Tryd.prog 90 = some 1 := by kernel_rfl
theorem b90 : byT Tryd.prog 90 = some 8 := by kernel_rfl
theorem a90 : aggT Tryd.prog 90 = some false := by kernel_rfl
theorem z90 : zT Tryd.prog 90 = some (.nilp) := by kernel_rfl
theorem g91 : Tryd.prog.eqGuardType Tryd.prog.depth 91 = false := by kernel_rfl
theorem s91 : szT Tryd.prog 91 = some 1 := by kernel_rfl
theorem b91 : byT Tryd.prog 91 = some 8 := by kernel_rfl
theorem a91 : aggT Tryd.prog 91 = some false := by kernel_rfl
theorem z91 : zT Tryd.prog 91 = some (.nilf) := by kernel_rfl
theorem g92 : Tryd.prog.eqGuardType Tryd.prog.depth 92 = false := by kernel_rfl
theorem s92 : szT Tryd.prog 92 = some 1 := by kernel_rfl
theorem b92 : byT Tryd.prog 92 = some 8 := by kernel_rfl
theorem a92 : aggT Tryd.prog 92 = some false := by kernel_rfl
theorem z92 : zT Tryd.prog 92 = some (.nilf) := by kernel_rfl
theorem g94 : Tryd.prog.eqGuardType Tryd.prog.depth 94 = false := by kernel_rfl
theorem s94 : szT Tryd.prog 94 = some 1 := by kernel_rfl
theorem b94 : byT Tryd.prog 94 = some 8 := by kernel_rfl
theorem a94 : aggT Tryd.prog 94 = some false := by kernel_rfl
theorem z94 : zT Tryd.prog 94 = some (.nilf) := by kernel_rfl
theorem g96 : Tryd.prog.eqGuardType Tryd.prog.depth 96 = false := by kernel_rfl
theorem s96 : szT Tryd.prog 96 = some 1 := by kernel_rfl
theorem b96 : byT Tryd.prog 96 = some 8 := by kernel_rfl
theorem a96 : aggT Tryd.prog 96 = some false := by kernel_rfl
theorem z96 : zT Tryd.prog 96 = some (.nilf) := by kernel_rfl
theorem g97 : Tryd.prog.eqGuardType Tryd.prog.depth 97 = false := by kernel_rfl
theorem s97 : szT Tryd.prog 97 = some 1 := by kernel_rfl
theorem b97 : byT Tryd.prog 97 = some 8 := by kernel_rfl
theorem a97 : aggT Tryd.prog 97 = some false := by kernel_rfl
theorem z97 : zT Tryd.prog 97 = some (.nilf) := by kernel_rfl
theorem g98 : Tryd.prog.eqGuardType Tryd.prog.depth 98 = false := by kernel_rfl
theorem s98 : szT Tryd.prog 98 = some 1 := by kernel_rfl
theorem b98 : byT Tryd.prog 98 = some 8 := by kernel_rfl
theorem a98 : aggT Tryd.prog 98 = some false := by kernel_rfl
theorem z98 : zT Tryd.prog 98 = some (.nilp) := by kernel_rfl
theorem s99 : szT Tryd.prog 99 = some 3 := by kernel_rfl
theorem b99 : byT Tryd.prog 99 = some 24 := by kernel_rfl
theorem a99 : aggT Tryd.prog 99 = some true := by kernel_rfl
theorem z99 : zT Tryd.prog 99 = some (.agg [.nilp, .int .i64 0, .int .i64 0]) := by kernel_rfl
theorem s100 : szT Tryd.prog 100 = some 3 := by kernel_rfl
theorem b100 : byT Tryd.prog 100 = some 24 := by kernel_rfl
theorem a100 : aggT Tryd.prog 100 = some true := by kernel_rfl
theorem z100 : zT Tryd.prog 100 = some (.agg [.nilp, .int .i64 0, .int .i64 0]) := by kernel_rfl
theorem s101 : szT Tryd.prog 101 = some 48 := by kernel_rfl
theorem b101 : byT Tryd.prog 101 = some 384 := by kernel_rfl
theorem a101 : aggT Tryd.prog 101 = some true := by kernel_rfl
theorem z101 : zT Tryd.prog 101 = some (.agg [.nilp, .int .i64 0, .int .i64 0, .nilp, .int .i64 0, .int .i64 0, .nilp, .int .i64 0, .int .i64 0, .nilp, .int .i64 0, .int .i64 0, .nilp, .int .i64 0, .int .i64 0, .nilp, .int .i64 0, .int .i64 0, .nilp, .int .i64 0, .int .i64 0, .nilp, .int .i64 0, .int .i64 0, .nilp, .int .i64 0, .int .i64 0, .nilp, .int .i64 0, .int .i64 0, .nilp, .int .i64 0, .int .i64 0, .nilp, .int .i64 0, .int .i64 0, .nilp, .int .i64 0, .int .i64 0, .nilp, .int .i64 0, .int .i64 0, .nilp, .int .i64 0, .int .i64 0, .nilp, .int .i64 0, .int .i64 0]) := by kernel_rfl
theorem g102 : Tryd.prog.eqGuardType Tryd.prog.depth 102 = false := by kernel_rfl
theorem s102 : szT Tryd.prog 102 = some 1 := by kernel_rfl
theorem b102 : byT Tryd.prog 102 = some 8 := by kernel_rfl
theorem a102 : aggT Tryd.prog 102 = some false := by kernel_rfl
theorem z102 : zT Tryd.prog 102 = some (.nilf) := by kernel_rfl
theorem g103 : Tryd.prog.eqGuardType Tryd.prog.depth 103 = false := by kernel_rfl
theorem s103 : szT Tryd.prog 103 = some 1 := by kernel_rfl
theorem b103 : byT Tryd.prog 103 = some 8 := by kernel_rfl
theorem a103 : aggT Tryd.prog 103 = some false := by kernel_rfl
theorem z103 : zT Tryd.prog 103 = some (.nilp) := by kernel_rfl
theorem g104 : Tryd.prog.eqGuardType Tryd.prog.depth 104 = false := by kernel_rfl
theorem s104 : szT Tryd.prog 104 = some 1 := by kernel_rfl
theorem b104 : byT Tryd.prog 104 = some 8 := by kernel_rfl
theorem a104 : aggT Tryd.prog 104 = some false := by kernel_rfl
theorem z104 : zT Tryd.prog 104 = some (.nilf) := by kernel_rfl
theorem g105 : Tryd.prog.eqGuardType Tryd.prog.depth 105 = false := by kernel_rfl
theorem s105 : szT Tryd.prog 105 = some 1 := by kernel_rfl
theorem b105 : byT Tryd.prog 105 = some 8 := by kernel_rfl
theorem a105 : aggT Tryd.prog 105 = some false := by kernel_rfl
theorem z105 : zT Tryd.prog 105 = some (.nilf) := by kernel_rfl
theorem g106 : Tryd.prog.eqGuardType Tryd.prog.depth 106 = false := by kernel_rfl
theorem s106 : szT Tryd.prog 106 = some 1 := by kernel_rfl
theorem b106 : byT Tryd.prog 106 = some 8 := by kernel_rfl
theorem a106 : aggT Tryd.prog 106 = some false := by kernel_rfl
theorem z106 : zT Tryd.prog 106 = some (.nilf) := by kernel_rfl
theorem g107 : Tryd.prog.eqGuardType Tryd.prog.depth 107 = false := by kernel_rfl
theorem s107 : szT Tryd.prog 107 = some 1 := by kernel_rfl
theorem b107 : byT Tryd.prog 107 = some 8 := by kernel_rfl
theorem a107 : aggT Tryd.prog 107 = some false := by kernel_rfl
theorem z107 : zT Tryd.prog 107 = some (.nilf) := by kernel_rfl
theorem g108 : Tryd.prog.eqGuardType Tryd.prog.depth 108 = false := by kernel_rfl
theorem s108 : szT Tryd.prog 108 = some 1 := by kernel_rfl
theorem b108 : byT Tryd.prog 108 = some 8 := by kernel_rfl
theorem a108 : aggT Tryd.prog 108 = some false := by kernel_rfl
theorem z108 : zT Tryd.prog 108 = some (.nilf) := by kernel_rfl
theorem g109 : Tryd.prog.eqGuardType Tryd.prog.depth 109 = false := by kernel_rfl
theorem s109 : szT Tryd.prog 109 = some 1 := by kernel_rfl
theorem b109 : byT Tryd.prog 109 = some 8 := by kernel_rfl
theorem a109 : aggT Tryd.prog 109 = some false := by kernel_rfl
theorem z109 : zT Tryd.prog 109 = some (.nilf) := by kernel_rfl
theorem s110 : szT Tryd.prog 110 = some 64 := by kernel_rfl
theorem b110 : byT Tryd.prog 110 = some 64 := by kernel_rfl
theorem a110 : aggT Tryd.prog 110 = some true := by kernel_rfl
theorem g110 : Tryd.prog.eqGuardType Tryd.prog.depth 110 = false := by kernel_rfl
theorem h110 : Tryd.prog.stoodInHeld 110 = false := by kernel_rfl
theorem z110 : zT Tryd.prog 110 = some (.agg [.int .u8 0, .int .u8 0, .int .u8 0, .int .u8 0, .int .u8 0, .int .u8 0, .int .u8 0, .int .u8 0, .int .u8 0, .int .u8 0, .int .u8 0, .int .u8 0, .int .u8 0, .int .u8 0, .int .u8 0, .int .u8 0, .int .u8 0, .int .u8 0, .int .u8 0, .int .u8 0, .int .u8 0, .int .u8 0, .int .u8 0, .int .u8 0, .int .u8 0, .int .u8 0, .int .u8 0, .int .u8 0, .int .u8 0, .int .u8 0, .int .u8 0, .int .u8 0, .int .u8 0, .int .u8 0, .int .u8 0, .int .u8 0, .int .u8 0, .int .u8 0, .int .u8 0, .int .u8 0, .int .u8 0, .int .u8 0, .int .u8 0, .int .u8 0, .int .u8 0, .int .u8 0, .int .u8 0, .int .u8 0, .int .u8 0, .int .u8 0, .int .u8 0, .int .u8 0, .int .u8 0, .int .u8 0, .int .u8 0, .int .u8 0, .int .u8 0, .int .u8 0, .int .u8 0, .int .u8 0, .int .u8 0, .int .u8 0, .int .u8 0, .int .u8 0]) := by kernel_rfl
theorem g112 : Tryd.prog.eqGuardType Tryd.prog.depth 112 = false := by kernel_rfl
theorem s112 : szT Tryd.prog 112 = some 1 := by kernel_rfl
theorem b112 : byT Tryd.prog 112 = some 8 := by kernel_rfl
theorem a112 : aggT Tryd.prog 112 = some false := by kernel_rfl
theorem z112 : zT Tryd.prog 112 = some (.nilf) := by kernel_rfl
theorem s113 : szT Tryd.prog 113 = some 1 := by kernel_rfl
theorem b113 : byT Tryd.prog 113 = some 4 := by kernel_rfl
theorem a113 : aggT Tryd.prog 113 = some false := by kernel_rfl
theorem z113 : zT Tryd.prog 113 = some (.int .u32 0) := by kernel_rfl
theorem g114 : Tryd.prog.eqGuardType Tryd.prog.depth 114 = false := by kernel_rfl
theorem s114 : szT Tryd.prog 114 = some 1 := by kernel_rfl
theorem b114 : byT Tryd.prog 114 = some 8 := by kernel_rfl
theorem a114 : aggT Tryd.prog 114 = some false := by kernel_rfl
theorem z114 : zT Tryd.prog 114 = some (.nilf) := by kernel_rfl
theorem g115 : Tryd.prog.eqGuardType Tryd.prog.depth 115 = false := by kernel_rfl
theorem s115 : szT Tryd.prog 115 = some 1 := by kernel_rfl
theorem b115 : byT Tryd.prog 115 = some 8 := by kernel_rfl
theorem a115 : aggT Tryd.prog 115 = some false := by kernel_rfl
theorem z115 : zT Tryd.prog 115 = some (.nilf) := by kernel_rfl
theorem g116 : Tryd.prog.eqGuardType Tryd.prog.depth 116 = false := by kernel_rfl
theorem s116 : szT Tryd.prog 116 = some 1 := by kernel_rfl
theorem b116 : byT Tryd.prog 116 = some 8 := by kernel_rfl
theorem a116 : aggT Tryd.prog 116 = some false := by kernel_rfl
theorem z116 : zT Tryd.prog 116 = some (.nilf) := by kernel_rfl
theorem g118 : Tryd.prog.eqGuardType Tryd.prog.depth 118 = false := by kernel_rfl
theorem s118 : szT Tryd.prog 118 = some 1 := by kernel_rfl
theorem b118 : byT Tryd.prog 118 = some 8 := by kernel_rfl
theorem a118 : aggT Tryd.prog 118 = some false := by kernel_rfl
theorem z118 : zT Tryd.prog 118 = some (.nilf) := by kernel_rfl
theorem g119 : Tryd.prog.eqGuardType Tryd.prog.depth 119 = false := by kernel_rfl
theorem s119 : szT Tryd.prog 119 = some 1 := by kernel_rfl
theorem b119 : byT Tryd.prog 119 = some 8 := by kernel_rfl
theorem a119 : aggT Tryd.prog 119 = some false := by kernel_rfl
theorem z119 : zT Tryd.prog 119 = some (.nilf) := by kernel_rfl
theorem g120 : Tryd.prog.eqGuardType Tryd.prog.depth 120 = false := by kernel_rfl
theorem s120 : szT Tryd.prog 120 = some 1 := by kernel_rfl
theorem b120 : byT Tryd.prog 120 = some 8 := by kernel_rfl
theorem a120 : aggT Tryd.prog 120 = some false := by kernel_rfl
theorem z120 : zT Tryd.prog 120 = some (.nilf) := by kernel_rfl
theorem g121 : Tryd.prog.eqGuardType Tryd.prog.depth 121 = false := by kernel_rfl
theorem s121 : szT Tryd.prog 121 = some 1 := by kernel_rfl
theorem b121 : byT Tryd.prog 121 = some 8 := by kernel_rfl
theorem a121 : aggT Tryd.prog 121 = some false := by kernel_rfl
theorem z121 : zT Tryd.prog 121 = some (.nilp) := by kernel_rfl
theorem g122 : Tryd.prog.eqGuardType Tryd.prog.depth 122 = false := by kernel_rfl
theorem s122 : szT Tryd.prog 122 = some 1 := by kernel_rfl
theorem b122 : byT Tryd.prog 122 = some 8 := by kernel_rfl
theorem a122 : aggT Tryd.prog 122 = some false := by kernel_rfl
theorem z122 : zT Tryd.prog 122 = some (.nilf) := by kernel_rfl
theorem g124 : Tryd.prog.eqGuardType Tryd.prog.depth 124 = false := by kernel_rfl
theorem s124 : szT Tryd.prog 124 = some 1 := by kernel_rfl
theorem b124 : byT Tryd.prog 124 = some 8 := by kernel_rfl
theorem a124 : aggT Tryd.prog 124 = some false := by kernel_rfl
theorem z124 : zT Tryd.prog 124 = some (.nilf) := by kernel_rfl
theorem g125 : Tryd.prog.eqGuardType Tryd.prog.depth 125 = false := by kernel_rfl
theorem s125 : szT Tryd.prog 125 = some 1 := by kernel_rfl
theorem b125 : byT Tryd.prog 125 = some 8 := by kernel_rfl
theorem a125 : aggT Tryd.prog 125 = some false := by kernel_rfl
theorem z125 : zT Tryd.prog 125 = some (.nilf) := by kernel_rfl
theorem g126 : Tryd.prog.eqGuardType Tryd.prog.depth 126 = false := by kernel_rfl
theorem s126 : szT Tryd.prog 126 = some 1 := by kernel_rfl
theorem b126 : byT Tryd.prog 126 = some 8 := by kernel_rfl
theorem a126 : aggT Tryd.prog 126 = some false := by kernel_rfl
theorem z126 : zT Tryd.prog 126 = some (.nilf) := by kernel_rfl
theorem s127 : szT Tryd.prog 127 = some 1 := by kernel_rfl
theorem b127 : byT Tryd.prog 127 = some 8 := by kernel_rfl
theorem a127 : aggT Tryd.prog 127 = some false := by kernel_rfl
theorem z127 : zT Tryd.prog 127 = some (.int .u64 0) := by kernel_rfl
theorem g128 : Tryd.prog.eqGuardType Tryd.prog.depth 128 = false := by kernel_rfl
theorem s128 : szT Tryd.prog 128 = some 1 := by kernel_rfl
theorem b128 : byT Tryd.prog 128 = some 8 := by kernel_rfl
theorem a128 : aggT Tryd.prog 128 = some false := by kernel_rfl
theorem z128 : zT Tryd.prog 128 = some (.nilf) := by kernel_rfl
theorem s129 : szT Tryd.prog 129 = some 8 := by kernel_rfl
theorem b129 : byT Tryd.prog 129 = some 128 := by kernel_rfl
theorem a129 : aggT Tryd.prog 129 = some true := by kernel_rfl
theorem g129 : Tryd.prog.eqGuardType Tryd.prog.depth 129 = false := by kernel_rfl
theorem h129 : Tryd.prog.stoodInHeld 129 = false := by kernel_rfl
theorem z129 : zT Tryd.prog 129 = some (.agg [.str [], .str [], .str [], .str [], .str [], .str [], .str [], .str []]) := by kernel_rfl
theorem g130 : Tryd.prog.eqGuardType Tryd.prog.depth 130 = false := by kernel_rfl
theorem s130 : szT Tryd.prog 130 = some 1 := by kernel_rfl
theorem b130 : byT Tryd.prog 130 = some 8 := by kernel_rfl
theorem a130 : aggT Tryd.prog 130 = some false := by kernel_rfl
theorem z130 : zT Tryd.prog 130 = some (.nilf) := by kernel_rfl
theorem g131 : Tryd.prog.eqGuardType Tryd.prog.depth 131 = false := by kernel_rfl
theorem s131 : szT Tryd.prog 131 = some 1 := by kernel_rfl
theorem b131 : byT Tryd.prog 131 = some 8 := by kernel_rfl
theorem a131 : aggT Tryd.prog 131 = some false := by kernel_rfl
theorem z131 : zT Tryd.prog 131 = some (.nilf) := by kernel_rfl
theorem s132 : szT Tryd.prog 132 = some 1 := by kernel_rfl
theorem b132 : byT Tryd.prog 132 = some 16 := by kernel_rfl
theorem a132 : aggT Tryd.prog 132 = some false := by kernel_rfl
theorem z132 : zT Tryd.prog 132 = some (.nili) := by kernel_rfl
theorem s133 : szT Tryd.prog 133 = some 1 := by kernel_rfl
theorem b133 : byT Tryd.prog 133 = some 16 := by kernel_rfl
theorem a133 : aggT Tryd.prog 133 = some false := by kernel_rfl
theorem z133 : zT Tryd.prog 133 = some (.nili) := by kernel_rfl
theorem g135 : Tryd.prog.eqGuardType Tryd.prog.depth 135 = false := by kernel_rfl
theorem s135 : szT Tryd.prog 135 = some 1 := by kernel_rfl
theorem b135 : byT Tryd.prog 135 = some 8 := by kernel_rfl
theorem a135 : aggT Tryd.prog 135 = some false := by kernel_rfl
theorem z135 : zT Tryd.prog 135 = some (.nilf) := by kernel_rfl
theorem s136 : szT Tryd.prog 136 = some 1 := by kernel_rfl
theorem b136 : byT Tryd.prog 136 = some 8 := by kernel_rfl
theorem a136 : aggT Tryd.prog 136 = some true := by kernel_rfl
theorem g136 : Tryd.prog.eqGuardType Tryd.prog.depth 136 = false := by kernel_rfl
theorem h136 : Tryd.prog.stoodInHeld 136 = false := by kernel_rfl
theorem z136 : zT Tryd.prog 136 = some (.agg [.int .i64 0]) := by kernel_rfl
theorem s137 : szT Tryd.prog 137 = some 1 := by kernel_rfl
theorem b137 : byT Tryd.prog 137 = some 8 := by kernel_rfl
theorem a137 : aggT Tryd.prog 137 = some true := by kernel_rfl
theorem g137 : Tryd.prog.eqGuardType Tryd.prog.depth 137 = false := by kernel_rfl
theorem h137 : Tryd.prog.stoodInHeld 137 = false := by kernel_rfl
theorem z137 : zT Tryd.prog 137 = some (.agg [.int .i64 0]) := by kernel_rfl
theorem s139 : szT Tryd.prog 139 = some 3 := by kernel_rfl
theorem b139 : byT Tryd.prog 139 = some 32 := by kernel_rfl
theorem a139 : aggT Tryd.prog 139 = some true := by kernel_rfl
theorem g139 : Tryd.prog.eqGuardType Tryd.prog.depth 139 = false := by kernel_rfl
theorem h139 : Tryd.prog.stoodInHeld 139 = false := by kernel_rfl
theorem z139 : zT Tryd.prog 139 = some (.agg [.int .i64 0, .int .i64 0, .str []]) := by kernel_rfl
theorem s140 : szT Tryd.prog 140 = some 3 := by kernel_rfl
theorem b140 : byT Tryd.prog 140 = some 32 := by kernel_rfl
theorem a140 : aggT Tryd.prog 140 = some true := by kernel_rfl
theorem g140 : Tryd.prog.eqGuardType Tryd.prog.depth 140 = false := by kernel_rfl
theorem h140 : Tryd.prog.stoodInHeld 140 = false := by kernel_rfl
theorem z140 : zT Tryd.prog 140 = some (.agg [.int .i64 0, .int .i64 0, .str []]) := by kernel_rfl
theorem s141 : szT Tryd.prog 141 = some 2 := by kernel_rfl
theorem b141 : byT Tryd.prog 141 = some 16 := by kernel_rfl
theorem a141 : aggT Tryd.prog 141 = some true := by kernel_rfl
theorem g141 : Tryd.prog.eqGuardType Tryd.prog.depth 141 = false := by kernel_rfl
theorem h141 : Tryd.prog.stoodInHeld 141 = false := by kernel_rfl
theorem z141 : zT Tryd.prog 141 = some (.agg [.int .i64 0, .int .i64 0]) := by kernel_rfl
theorem s142 : szT Tryd.prog 142 = some 2 := by kernel_rfl
theorem b142 : byT Tryd.prog 142 = some 16 := by kernel_rfl
theorem a142 : aggT Tryd.prog 142 = some true := by kernel_rfl
theorem g142 : Tryd.prog.eqGuardType Tryd.prog.depth 142 = false := by kernel_rfl
theorem h142 : Tryd.prog.stoodInHeld 142 = false := by kernel_rfl
theorem z142 : zT Tryd.prog 142 = some (.agg [.int .i64 0, .int .i64 0]) := by kernel_rfl
theorem s143 : szT Tryd.prog 143 = some 3 := by kernel_rfl
theorem b143 : byT Tryd.prog 143 = some 24 := by kernel_rfl
theorem a143 : aggT Tryd.prog 143 = some true := by kernel_rfl
theorem g143 : Tryd.prog.eqGuardType Tryd.prog.depth 143 = false := by kernel_rfl
theorem h143 : Tryd.prog.stoodInHeld 143 = false := by kernel_rfl
theorem z143 : zT Tryd.prog 143 = some (.agg [.int .i64 0, .int .i64 0, .int .i64 0]) := by kernel_rfl
theorem s144 : szT Tryd.prog 144 = some 3 := by kernel_rfl
theorem b144 : byT Tryd.prog 144 = some 24 := by kernel_rfl
theorem a144 : aggT Tryd.prog 144 = some true := by kernel_rfl
theorem g144 : Tryd.prog.eqGuardType Tryd.prog.depth 144 = false := by kernel_rfl
theorem h144 : Tryd.prog.stoodInHeld 144 = false := by kernel_rfl
theorem z144 : zT Tryd.prog 144 = some (.agg [.int .i64 0, .int .i64 0, .int .i64 0]) := by kernel_rfl
theorem s145 : szT Tryd.prog 145 = some 3 := by kernel_rfl
theorem b145 : byT Tryd.prog 145 = some 24 := by kernel_rfl
theorem a145 : aggT Tryd.prog 145 = some true := by kernel_rfl
theorem g145 : Tryd.prog.eqGuardType Tryd.prog.depth 145 = false := by kernel_rfl
theorem h145 : Tryd.prog.stoodInHeld 145 = false := by kernel_rfl
theorem z145 : zT Tryd.prog 145 = some (.agg [.int .i64 0, .int .i64 0, .int .i64 0]) := by kernel_rfl
theorem g147 : Tryd.prog.eqGuardType Tryd.prog.depth 147 = false := by kernel_rfl
theorem s147 : szT Tryd.prog 147 = some 1 := by kernel_rfl
theorem b147 : byT Tryd.prog 147 = some 8 := by kernel_rfl
theorem a147 : aggT Tryd.prog 147 = some false := by kernel_rfl
theorem z147 : zT Tryd.prog 147 = some (.nilf) := by kernel_rfl
theorem g148 : Tryd.prog.eqGuardType Tryd.prog.depth 148 = false := by kernel_rfl
theorem s148 : szT Tryd.prog 148 = some 1 := by kernel_rfl
theorem b148 : byT Tryd.prog 148 = some 8 := by kernel_rfl
theorem a148 : aggT Tryd.prog 148 = some false := by kernel_rfl
theorem z148 : zT Tryd.prog 148 = some (.nilf) := by kernel_rfl
theorem g149 : Tryd.prog.eqGuardType Tryd.prog.depth 149 = false := by kernel_rfl
theorem s149 : szT Tryd.prog 149 = some 1 := by kernel_rfl
theorem b149 : byT Tryd.prog 149 = some 8 := by kernel_rfl
theorem a149 : aggT Tryd.prog 149 = some false := by kernel_rfl
theorem z149 : zT Tryd.prog 149 = some (.nilf) := by kernel_rfl
theorem g150 : Tryd.prog.eqGuardType Tryd.prog.depth 150 = false := by kernel_rfl
theorem s150 : szT Tryd.prog 150 = some 1 := by kernel_rfl
theorem b150 : byT Tryd.prog 150 = some 8 := by kernel_rfl
theorem a150 : aggT Tryd.prog 150 = some false := by kernel_rfl
theorem z150 : zT Tryd.prog 150 = some (.nilf) := by kernel_rfl
theorem s151 : szT Tryd.prog 151 = some 1 := by kernel_rfl
theorem b151 : byT Tryd.prog 151 = some 8 := by kernel_rfl
theorem a151 : aggT Tryd.prog 151 = some true := by kernel_rfl
theorem g151 : Tryd.prog.eqGuardType Tryd.prog.depth 151 = false := by kernel_rfl
theorem h151 : Tryd.prog.stoodInHeld 151 = false := by kernel_rfl
theorem z151 : zT Tryd.prog 151 = some (.agg [.int .i64 0]) := by kernel_rfl
theorem s152 : szT Tryd.prog 152 = some 1 := by kernel_rfl
theorem b152 : byT Tryd.prog 152 = some 8 := by kernel_rfl
theorem a152 : aggT Tryd.prog 152 = some true := by kernel_rfl
theorem g152 : Tryd.prog.eqGuardType Tryd.prog.depth 152 = false := by kernel_rfl
theorem h152 : Tryd.prog.stoodInHeld 152 = false := by kernel_rfl
theorem z152 : zT Tryd.prog 152 = some (.agg [.int .i64 0]) := by kernel_rfl
theorem s153 : szT Tryd.prog 153 = some 1 := by kernel_rfl
theorem b153 : byT Tryd.prog 153 = some 8 := by kernel_rfl
theorem a153 : aggT Tryd.prog 153 = some true := by kernel_rfl
theorem g153 : Tryd.prog.eqGuardType Tryd.prog.depth 153 = false := by kernel_rfl
theorem h153 : Tryd.prog.stoodInHeld 153 = false := by kernel_rfl
theorem z153 : zT Tryd.prog 153 = some (.agg [.int .i64 0]) := by kernel_rfl
theorem g154 : Tryd.prog.eqGuardType Tryd.prog.depth 154 = false := by kernel_rfl
theorem s154 : szT Tryd.prog 154 = some 1 := by kernel_rfl
theorem b154 : byT Tryd.prog 154 = some 8 := by kernel_rfl
theorem a154 : aggT Tryd.prog 154 = some false := by kernel_rfl
theorem z154 : zT Tryd.prog 154 = some (.nilf) := by kernel_rfl
theorem g155 : Tryd.prog.eqGuardType Tryd.prog.depth 155 = false := by kernel_rfl
theorem s155 : szT Tryd.prog 155 = some 1 := by kernel_rfl
theorem b155 : byT Tryd.prog 155 = some 8 := by kernel_rfl
theorem a155 : aggT Tryd.prog 155 = some false := by kernel_rfl
theorem z155 : zT Tryd.prog 155 = some (.nilf) := by kernel_rfl
theorem s156 : szT Tryd.prog 156 = some 256 := by kernel_rfl
theorem b156 : byT Tryd.prog 156 = some 256 := by kernel_rfl
theorem a156 : aggT Tryd.prog 156 = some true := by kernel_rfl
theorem g156 : Tryd.prog.eqGuardType Tryd.prog.depth 156 = false := by kernel_rfl
theorem h156 : Tryd.prog.stoodInHeld 156 = false := by kernel_rfl
theorem z156 : zT Tryd.prog 156 = some (.agg [.int .u8 0, .int .u8 0, .int .u8 0, .int .u8 0, .int .u8 0, .int .u8 0, .int .u8 0, .int .u8 0, .int .u8 0, .int .u8 0, .int .u8 0, .int .u8 0, .int .u8 0, .int .u8 0, .int .u8 0, .int .u8 0, .int .u8 0, .int .u8 0, .int .u8 0, .int .u8 0, .int .u8 0, .int .u8 0, .int .u8 0, .int .u8 0, .int .u8 0, .int .u8 0, .int .u8 0, .int .u8 0, .int .u8 0, .int .u8 0, .int .u8 0, .int .u8 0, .int .u8 0, .int .u8 0, .int .u8 0, .int .u8 0, .int .u8 0, .int .u8 0, .int .u8 0, .int .u8 0, .int .u8 0, .int .u8 0, .int .u8 0, .int .u8 0, .int .u8 0, .int .u8 0, .int .u8 0, .int .u8 0, .int .u8 0, .int .u8 0, .int .u8 0, .int .u8 0, .int .u8 0, .int .u8 0, .int .u8 0, .int .u8 0, .int .u8 0, .int .u8 0, .int .u8 0, .int .u8 0, .int .u8 0, .int .u8 0, .int .u8 0, .int .u8 0, .int .u8 0, .int .u8 0, .int .u8 0, .int .u8 0, .int .u8 0, .int .u8 0, .int .u8 0, .int .u8 0, .int .u8 0, .int .u8 0, .int .u8 0, .int .u8 0, .int .u8 0, .int .u8 0, .int .u8 0, .int .u8 0, .int .u8 0, .int .u8 0, .int .u8 0, .int .u8 0, .int .u8 0, .int .u8 0, .int .u8 0, .int .u8 0, .int .u8 0, .int .u8 0, .int .u8 0, .int .u8 0, .int .u8 0, .int .u8 0, .int .u8 0, .int .u8 0, .int .u8 0, .int .u8 0, .int .u8 0, .int .u8 0, .int .u8 0, .int .u8 0, .int .u8 0, .int .u8 0, .int .u8 0, .int .u8 0, .int .u8 0, .int .u8 0, .int .u8 0, .int .u8 0, .int .u8 0, .int .u8 0, .int .u8 0, .int .u8 0, .int .u8 0, .int .u8 0, .int .u8 0, .int .u8 0, .int .u8 0, .int .u8 0, .int .u8 0, .int .u8 0, .int .u8 0, .int .u8 0, .int .u8 0, .int .u8 0, .int .u8 0, .int .u8 0, .int .u8 0, .int .u8 0, .int .u8 0, .int .u8 0, .int .u8 0, .int .u8 0, .int .u8 0, .int .u8 0, .int .u8 0, .int .u8 0, .int .u8 0, .int .u8 0, .int .u8 0, .int .u8 0, .int .u8 0, .int .u8 0, .int .u8 0, .int .u8 0, .int .u8 0, .int .u8 0, .int .u8 0, .int .u8 0, .int .u8 0, .int .u8 0, .int .u8 0, .int .u8 0, .int .u8 0, .int .u8 0, .int .u8 0, .int .u8 0, .int .u8 0, .int .u8 0, .int .u8 0, .int .u8 0, .int .u8 0, .int .u8 0, .int .u8 0, .int .u8 0, .int .u8 0, .int .u8 0, .int .u8 0, .int .u8 0, .int .u8 0, .int .u8 0, .int .u8 0, .int .u8 0, .int .u8 0, .int .u8 0, .int .u8 0, .int .u8 0, .int .u8 0, .int .u8 0, .int .u8 0, .int .u8 0, .int .u8 0, .int .u8 0, .int .u8 0, .int .u8 0, .int .u8 0, .int .u8 0, .int .u8 0, .int .u8 0, .int .u8 0, .int .u8 0, .int .u8 0, .int .u8 0, .int .u8 0, .int .u8 0, .int .u8 0, .int .u8 0, .int .u8 0, .int .u8 0, .int .u8 0, .int .u8 0, .int .u8 0, .int .u8 0, .int .u8 0, .int .u8 0, .int .u8 0, .int .u8 0, .int .u8 0, .int .u8 0, .int .u8 0, .int .u8 0, .int .u8 0, .int .u8 0, .int .u8 0, .int .u8 0, .int .u8 0, .int .u8 0, .int .u8 0, .int .u8 0, .int .u8 0, .int .u8 0, .int .u8 0, .int .u8 0, .int .u8 0, .int .u8 0, .int .u8 0, .int .u8 0, .int .u8 0, .int .u8 0, .int .u8 0, .int .u8 0, .int .u8 0, .int .u8 0, .int .u8 0, .int .u8 0, .int .u8 0, .int .u8 0, .int .u8 0, .int .u8 0, .int .u8 0, .int .u8 0, .int .u8 0, .int .u8 0, .int .u8 0, .int .u8 0, .int .u8 0, .int .u8 0, .int .u8 0, .int .u8 0, .int .u8 0, .int .u8 0, .int .u8 0, .int .u8 0, .int .u8 0, .int .u8 0]) := by kernel_rfl
theorem s157 : szT Tryd.prog 157 = some 2 := by kernel_rfl
theorem b157 : byT Tryd.prog 157 = some 2 := by kernel_rfl
theorem a157 : aggT Tryd.prog 157 = some true := by kernel_rfl
theorem g157 : Tryd.prog.eqGuardType Tryd.prog.depth 157 = false := by kernel_rfl
theorem h157 : Tryd.prog.stoodInHeld 157 = false := by kernel_rfl
theorem z157 : zT Tryd.prog 157 = some (.agg [.int .u8 0, .int .u8 0]) := by kernel_rfl
theorem s158 : szT Tryd.prog 158 = some 2 := by kernel_rfl
theorem b158 : byT Tryd.prog 158 = some 2 := by kernel_rfl
theorem a158 : aggT Tryd.prog 158 = some true := by kernel_rfl
theorem g158 : Tryd.prog.eqGuardType Tryd.prog.depth 158 = false := by kernel_rfl
theorem h158 : Tryd.prog.stoodInHeld 158 = false := by kernel_rfl
theorem z158 : zT Tryd.prog 158 = some (.agg [.int .u8 0, .int .u8 0]) := by kernel_rfl
theorem s159 : szT Tryd.prog 159 = some 32 := by kernel_rfl
theorem b159 : byT Tryd.prog 159 = some 32 := by kernel_rfl
theorem a159 : aggT Tryd.prog 159 = some true := by kernel_rfl
theorem g159 : Tryd.prog.eqGuardType Tryd.prog.depth 159 = false := by kernel_rfl
theorem h159 : Tryd.prog.stoodInHeld 159 = false := by kernel_rfl
theorem z159 : zT Tryd.prog 159 = some (.agg [.int .u8 0, .int .u8 0, .int .u8 0, .int .u8 0, .int .u8 0, .int .u8 0, .int .u8 0, .int .u8 0, .int .u8 0, .int .u8 0, .int .u8 0, .int .u8 0, .int .u8 0, .int .u8 0, .int .u8 0, .int .u8 0, .int .u8 0, .int .u8 0, .int .u8 0, .int .u8 0, .int .u8 0, .int .u8 0, .int .u8 0, .int .u8 0, .int .u8 0, .int .u8 0, .int .u8 0, .int .u8 0, .int .u8 0, .int .u8 0, .int .u8 0, .int .u8 0]) := by kernel_rfl
theorem g161 : Tryd.prog.eqGuardType Tryd.prog.depth 161 = false := by kernel_rfl
theorem s161 : szT Tryd.prog 161 = some 1 := by kernel_rfl
theorem b161 : byT Tryd.prog 161 = some 8 := by kernel_rfl
theorem a161 : aggT Tryd.prog 161 = some false := by kernel_rfl
theorem z161 : zT Tryd.prog 161 = some (.nilf) := by kernel_rfl
theorem s162 : szT Tryd.prog 162 = some 4 := by kernel_rfl
theorem b162 : byT Tryd.prog 162 = some 40 := by kernel_rfl
theorem a162 : aggT Tryd.prog 162 = some true := by kernel_rfl
theorem z162 : zT Tryd.prog 162 = some (.agg [.nilp, .nilp, .nilp, .str []]) := by kernel_rfl
theorem s163 : szT Tryd.prog 163 = some 4 := by kernel_rfl
theorem b163 : byT Tryd.prog 163 = some 40 := by kernel_rfl
theorem a163 : aggT Tryd.prog 163 = some true := by kernel_rfl
theorem z163 : zT Tryd.prog 163 = some (.agg [.nilp, .nilp, .nilp, .str []]) := by kernel_rfl
theorem s164 : szT Tryd.prog 164 = some 0 := by kernel_rfl
theorem b164 : byT Tryd.prog 164 = some 0 := by kernel_rfl
theorem a164 : aggT Tryd.prog 164 = some true := by kernel_rfl
theorem z164 : zT Tryd.prog 164 = some (.agg []) := by kernel_rfl
theorem s165 : szT Tryd.prog 165 = some 0 := by kernel_rfl
theorem b165 : byT Tryd.prog 165 = some 0 := by kernel_rfl
theorem a165 : aggT Tryd.prog 165 = some true := by kernel_rfl
theorem z165 : zT Tryd.prog 165 = some (.agg []) := by kernel_rfl
theorem s166 : szT Tryd.prog 166 = some 0 := by kernel_rfl
theorem b166 : byT Tryd.prog 166 = some 0 := by kernel_rfl
theorem a166 : aggT Tryd.prog 166 = some true := by kernel_rfl
theorem z166 : zT Tryd.prog 166 = some (.agg []) := by kernel_rfl
theorem g167 : Tryd.prog.eqGuardType Tryd.prog.depth 167 = false := by kernel_rfl
theorem s167 : szT Tryd.prog 167 = some 1 := by kernel_rfl
theorem b167 : byT Tryd.prog 167 = some 8 := by kernel_rfl
theorem a167 : aggT Tryd.prog 167 = some false := by kernel_rfl
theorem z167 : zT Tryd.prog 167 = some (.nilf) := by kernel_rfl
theorem s168 : szT Tryd.prog 168 = some 1 := by kernel_rfl
theorem b168 : byT Tryd.prog 168 = some 1 := by kernel_rfl
theorem a168 : aggT Tryd.prog 168 = some false := by kernel_rfl
theorem z168 : zT Tryd.prog 168 = some (.int .u8 0) := by kernel_rfl
theorem s169 : szT Tryd.prog 169 = some 1 := by kernel_rfl
theorem b169 : byT Tryd.prog 169 = some 1 := by kernel_rfl
theorem a169 : aggT Tryd.prog 169 = some false := by kernel_rfl
theorem z169 : zT Tryd.prog 169 = some (.int .u8 0) := by kernel_rfl
theorem g170 : Tryd.prog.eqGuardType Tryd.prog.depth 170 = false := by kernel_rfl
theorem s170 : szT Tryd.prog 170 = some 1 := by kernel_rfl
theorem b170 : byT Tryd.prog 170 = some 8 := by kernel_rfl
theorem a170 : aggT Tryd.prog 170 = some false := by kernel_rfl
theorem z170 : zT Tryd.prog 170 = some (.nilf) := by kernel_rfl
theorem s171 : szT Tryd.prog 171 = some 1 := by kernel_rfl
theorem b171 : byT Tryd.prog 171 = some 4 := by kernel_rfl
theorem a171 : aggT Tryd.prog 171 = some false := by kernel_rfl
theorem z171 : zT Tryd.prog 171 = some (.int .i32 0) := by kernel_rfl
theorem s172 : szT Tryd.prog 172 = some 1 := by kernel_rfl
theorem b172 : byT Tryd.prog 172 = some 4 := by kernel_rfl
theorem a172 : aggT Tryd.prog 172 = some false := by kernel_rfl
theorem z172 : zT Tryd.prog 172 = some (.int .i32 0) := by kernel_rfl
theorem s173 : szT Tryd.prog 173 = some 11 := by kernel_rfl
theorem b173 : byT Tryd.prog 173 = some 48 := by kernel_rfl
theorem a173 : aggT Tryd.prog 173 = some true := by kernel_rfl
theorem z173 : zT Tryd.prog 173 = some (.agg [.int .u64 0, .int .u64 0, .int .u32 0, .int .u8 0, .int .u8 0, .int .u8 0, .int .u8 0, .nilf, .nilp, .int .i32 0, .int .i32 0]) := by kernel_rfl
theorem s174 : szT Tryd.prog 174 = some 11 := by kernel_rfl
theorem b174 : byT Tryd.prog 174 = some 48 := by kernel_rfl
theorem a174 : aggT Tryd.prog 174 = some true := by kernel_rfl
theorem z174 : zT Tryd.prog 174 = some (.agg [.int .u64 0, .int .u64 0, .int .u32 0, .int .u8 0, .int .u8 0, .int .u8 0, .int .u8 0, .nilf, .nilp, .int .i32 0, .int .i32 0]) := by kernel_rfl
theorem g175 : Tryd.prog.eqGuardType Tryd.prog.depth 175 = false := by kernel_rfl
theorem s175 : szT Tryd.prog 175 = some 1 := by kernel_rfl
theorem b175 : byT Tryd.prog 175 = some 8 := by kernel_rfl
theorem a175 : aggT Tryd.prog 175 = some false := by kernel_rfl
theorem z175 : zT Tryd.prog 175 = some (.nilf) := by kernel_rfl
attribute [go_sem] g1 s1 b1 a1 z1 s2 b2 a2 z2 s3 b3 a3 z3 s4 b4 a4 z4 s5 b5 a5 z5 s6 b6 a6 z6 s7 b7 a7 g7 h7 z7 s8 b8 a8 g8 h8 z8 s9 b9 a9 z9 s10 b10 a10 z10 s11 b11 a11 z11 s12 b12 a12 z12 s13 b13 a13 z13 s14 b14 a14 z14 g15 s15 b15 a15 z15 g16 s16 b16 a16 z16 g17 s17 b17 a17 z17 s18 b18 a18 z18 s19 b19 a19 z19 s20 b20 a20 z20 s21 b21 a21 z21 g22 s22 b22 a22 z22 g23 s23 b23 a23 z23 g24 s24 b24 a24 z24 s25 b25 a25 z25 g27 s27 b27 a27 z27 g28 s28 b28 a28 z28 g29 s29 b29 a29 z29 g30 s30 b30 a30 z30 g31 s31 b31 a31 z31 g33 s33 b33 a33 z33 g34 s34 b34 a34 z34 g35 s35 b35 a35 z35 s36 b36 a36 g36 h36 z36 s37 b37 a37 g37 h37 z37 g38 s38 b38 a38 z38 g39 s39 b39 a39 z39 g40 s40 b40 a40 z40 g41 s41 b41 a41 z41 g42 s42 b42 a42 z42 g44 s44 b44 a44 z44 g45 s45 b45 a45 z45 g46 s46 b46 a46 z46 g47 s47 b47 a47 z47 g48 s48 b48 a48 z48 g49 s49 b49 a49 z49 g50 s50 b50 a50 z50 g51 s51 b51 a51 z51 g52 s52 b52 a52 z52 g53 s53 b53 a53 z53 g54 s54 b54 a54 z54 s55 b55 a55 z55 s56 b56 a56 z56 s57 b57 a57 z57 s58 b58 a58 z58 g60 s60 b60 a60 z60 g61 s61 b61 a61 z61 g62 s62 b62 a62 z62 g63 s63 b63 a63 z63 g64 s64 b64 a64 z64 g65 s65 b65 a65 z65 s66 b66 a66 z66 s67 b67 a67 g67 h67 z67 s68 b68 a68 g68 h68 z68 s69 b69 a69 g69 h69 z69 s70 b70 a70 g70 h70 z70 g71 s71 b71 a71 z71 s72 b72 a72 z72 s73 b73 a73 z73 g75 s75 b75 a75 z75 g76 s76 b76 a76 z76 g77 s77 b77 a77 z77 s78 b78 a78 g78 h78 z78 s79 b79 a79 g79 h79 z79 s80 b80 a80 g80 h80 z80 s81 b81 a81 g81 h81 z81 g82 s82 b82 a82 z82 g83 s83 b83 a83 z83 g84 s84 b84 a84 z84 g85 s85 b85 a85 z85 g86 s86 b86 a86 z86 g87 s87 b87 a87 z87 g88 s88 b88 a88 z88 g89 s89 b89 a89 z89 g90 s90 b90 a90 z90 g91 s91 b91 a91 z91 g92 s92 b92 a92 z92 g94 s94 b94 a94 z94 g96 s96 b96 a96 z96 g97 s97 b97 a97 z97 g98 s98 b98 a98 z98 s99 b99 a99 z99 s100 b100 a100 z100 s101 b101 a101 z101 g102 s102 b102 a102 z102 g103 s103 b103 a103 z103 g104 s104 b104 a104 z104 g105 s105 b105 a105 z105 g106 s106 b106 a106 z106 g107 s107 b107 a107 z107 g108 s108 b108 a108 z108 g109 s109 b109 a109 z109 s110 b110 a110 g110 h110 z110 g112 s112 b112 a112 z112 s113 b113 a113 z113 g114 s114 b114 a114 z114 g115 s115 b115 a115 z115 g116 s116 b116 a116 z116 g118 s118 b118 a118 z118 g119 s119 b119 a119 z119 g120 s120 b120 a120 z120 g121 s121 b121 a121 z121 g122 s122 b122 a122 z122 g124 s124 b124 a124 z124 g125 s125 b125 a125 z125 g126 s126 b126 a126 z126 s127 b127 a127 z127 g128 s128 b128 a128 z128 s129 b129 a129 g129 h129 z129 g130 s130 b130 a130 z130 g131 s131 b131 a131 z131 s132 b132 a132 z132 s133 b133 a133 z133 g135 s135 b135 a135 z135 s136 b136 a136 g136 h136 z136 s137 b137 a137 g137 h137 z137 s139 b139 a139 g139 h139 z139 s140 b140 a140 g140 h140 z140 s141 b141 a141 g141 h141 z141 s142 b142 a142 g142 h142 z142 s143 b143 a143 g143 h143 z143 s144 b144 a144 g144 h144 z144 s145 b145 a145 g145 h145 z145 g147 s147 b147 a147 z147 g148 s148 b148 a148 z148 g149 s149 b149 a149 z149 g150 s150 b150 a150 z150 s151 b151 a151 g151 h151 z151 s152 b152 a152 g152 h152 z152 s153 b153 a153 g153 h153 z153 g154 s154 b154 a154 z154 g155 s155 b155 a155 z155 s156 b156 a156 g156 h156 z156 s157 b157 a157 g157 h157 z157 s158 b158 a158 g158 h158 z158 s159 b159 a159 g159 h159 z159 g161 s161 b161 a161 z161 s162 b162 a162 z162 s163 b163 a163 z163 s164 b164 a164 z164 s165 b165 a165 z165 s166 b166 a166 z166 g167 s167 b167 a167 z167 s168 b168 a168 z168 s169 b169 a169 z169 g170 s170 b170 a170 z170 s171 b171 a171 z171 s172 b172 a172 z172 s173 b173 a173 z173 s174 b174 a174 z174 g175 s175 b175 a175 z175 Tryd.underlying1 Tryd.underlying2 Tryd.underlying3 Tryd.underlying4 Tryd.underlying5 Tryd.underlying6 Tryd.underlying7 Tryd.underlying8 Tryd.underlying9 Tryd.underlying10 Tryd.underlying11 Tryd.underlying12 Tryd.underlying13 Tryd.underlying14 Tryd.underlying15 Tryd.underlying16 Tryd.underlying17 Tryd.underlying18 Tryd.underlying19 Tryd.underlying20 Tryd.underlying21 Tryd.underlying22 Tryd.underlying23 Tryd.underlying24 Tryd.underlying25 Tryd.underlying27 Tryd.underlying28 Tryd.underlying29 Tryd.underlying30 Tryd.underlying31 Tryd.underlying33 Tryd.underlying34 Tryd.underlying35 Tryd.underlying36 Tryd.underlying37 Tryd.underlying38 Tryd.underlying39 Tryd.underlying40 Tryd.underlying41 Tryd.underlying42 Tryd.underlying44 Tryd.underlying45 Tryd.underlying46 Tryd.underlying47 Tryd.underlying48 Tryd.underlying49 Tryd.underlying50 Tryd.underlying51 Tryd.underlying52 Tryd.underlying53 Tryd.underlying54 Tryd.underlying55 Tryd.underlying56 Tryd.underlying57 Tryd.underlying58 Tryd.underlying60 Tryd.underlying61 Tryd.underlying62 Tryd.underlying63 Tryd.underlying64 Tryd.underlying65 Tryd.underlying66 Tryd.underlying67 Tryd.underlying68 Tryd.underlying69 Tryd.underlying70 Tryd.underlying71 Tryd.underlying72 Tryd.underlying73 Tryd.underlying75 Tryd.underlying76 Tryd.underlying77 Tryd.underlying78 Tryd.underlying79 Tryd.underlying80 Tryd.underlying81 Tryd.underlying82 Tryd.underlying83 Tryd.underlying84 Tryd.underlying85 Tryd.underlying86 Tryd.underlying87 Tryd.underlying88 Tryd.underlying89 Tryd.underlying90 Tryd.underlying91 Tryd.underlying92 Tryd.underlying94 Tryd.underlying96 Tryd.underlying97 Tryd.underlying98 Tryd.underlying99 Tryd.underlying100 Tryd.underlying101 Tryd.underlying102 Tryd.underlying103 Tryd.underlying104 Tryd.underlying105 Tryd.underlying106 Tryd.underlying107 Tryd.underlying108 Tryd.underlying109 Tryd.underlying110 Tryd.underlying112 Tryd.underlying113 Tryd.underlying114 Tryd.underlying115 Tryd.underlying116 Tryd.underlying118 Tryd.underlying119 Tryd.underlying120 Tryd.underlying121 Tryd.underlying122 Tryd.underlying124 Tryd.underlying125 Tryd.underlying126 Tryd.underlying127 Tryd.underlying128 Tryd.underlying129 Tryd.underlying130 Tryd.underlying131 Tryd.underlying132 Tryd.underlying133 Tryd.underlying135 Tryd.underlying136 Tryd.underlying137 Tryd.underlying139 Tryd.underlying140 Tryd.underlying141 Tryd.underlying142 Tryd.underlying143 Tryd.underlying144 Tryd.underlying145 Tryd.underlying147 Tryd.underlying148 Tryd.underlying149 Tryd.underlying150 Tryd.underlying151 Tryd.underlying152 Tryd.underlying153 Tryd.underlying154 Tryd.underlying155 Tryd.underlying156 Tryd.underlying157 Tryd.underlying158 Tryd.underlying159 Tryd.underlying161 Tryd.underlying162 Tryd.underlying163 Tryd.underlying164 Tryd.underlying165 Tryd.underlying166 Tryd.underlying167 Tryd.underlying168 Tryd.underlying169 Tryd.underlying170 Tryd.underlying171 Tryd.underlying172 Tryd.underlying173 Tryd.underlying174 Tryd.underlying175
end Go.Proofs.Tryd.Ty
end
section
set_option linter.unusedVariables false
set_option linter.unusedSimpArgs false
namespace Go.Abs
theorem bget (s : List UInt8) (i : Nat) : (ByteArray.mk s.toArray).get! i = s.getD i 0 := by
  show s.toArray[i]! = _
  rw [getElem!_def]
  simp only [List.getElem?_toArray, List.getD_eq_getElem?_getD]
  cases s[i]? <;> rfl
theorem bsize (s : List UInt8) : (ByteArray.mk s.toArray).size = s.length := by simp [ByteArray.size]
theorem rune_low {s : List UInt8} {pos : Nat} (h : (s.getD pos 0).toNat < 128) : runeAt s pos = (((s.getD pos 0).toNat : Int), 1) := by
  simp only [runeAt, Utf8.decode, Nat.add_zero, bget, h, if_true]
theorem rune_high {s : List UInt8} {pos : Nat} (hp : pos < s.length) (h : 128 ≤ (s.getD pos 0).toNat) :
    128 ≤ (runeAt s pos).1 ∧ (runeAt s pos).1 ≤ 2147483647 ∧ 1 ≤ (runeAt s pos).2 ∧ pos + (runeAt s pos).2 ≤ s.length ∧ ∀ k, k < (runeAt s pos).2 → 128 ≤ (s.getD (pos + k) 0).toNat := by
  have hn : ¬ (s.getD pos 0).toNat < 128 := by omega
  have hb : ∀ k, (s.getD k 0).toNat < 256 := fun k => (s.getD k 0).toNat_lt
  have b0 := hb pos
  have b1 := hb (pos + 1)
  have b2 := hb (pos + 2)
  have b3 := hb (pos + 3)
  have k1 : ∀ k, k < 1 → 128 ≤ (s.getD (pos + k) 0).toNat := fun k hk => by
    have : k = 0 := by omega
    subst this; exact h
  simp only [runeAt, Utf8.decode, Nat.add_zero, bget, bsize, if_neg hn, Utf8.runeError]
  split
  · rename_i c
    simp only [Bool.and_eq_true, decide_eq_true_eq, beq_iff_eq] at c
    split
    · refine ⟨by simp only; omega, by simp only; omega, by simp, by simp only; omega, fun k hk => ?_⟩
      simp only at hk
      have : k = 0 ∨ k = 1 := by omega
      rcases this with rfl | rfl
      · exact h
      · omega
    · exact ⟨by simp, by simp, by simp, by simp only; omega, k1⟩
  · split
    · rename_i c
      simp only [Bool.and_eq_true, decide_eq_true_eq, beq_iff_eq] at c
      split
      · rename_i v
        simp only [Bool.and_eq_true, decide_eq_true_eq] at v
        refine ⟨by simp only; omega, by simp only; omega, by simp, by simp only; omega, fun k hk => ?_⟩
        simp only at hk
        have : k = 0 ∨ k = 1 ∨ k = 2 := by omega
        rcases this with rfl | rfl | rfl
        · exact h
        · omega
        · omega
      · exact ⟨by simp, by simp, by simp, by simp only; omega, k1⟩
    · split
      · rename_i c
        simp only [Bool.and_eq_true, decide_eq_true_eq, beq_iff_eq] at c
        split
        · rename_i v
          simp only [Bool.and_eq_true, decide_eq_true_eq] at v
          refine ⟨by simp only; omega, by simp only; omega, by simp, by simp only; omega, fun k hk => ?_⟩
          simp only at hk
          have : k = 0 ∨ k = 1 ∨ k = 2 ∨ k = 3 := by omega
          rcases this with rfl | rfl | rfl | rfl
          · exact h
          · omega
          · omega
          · omega
        · exact ⟨by simp, by simp, by simp, by simp only; omega, k1⟩
      · exact ⟨by simp, by simp, by simp, by simp only; omega, k1⟩
structure RuneB (PR : Int → Bool) (p : UInt8 → Bool) (b : Bool) : Prop where
  low : ∀ c : UInt8, c.toNat < 128 → PR c.toNat = p c
  rune : ∀ r : Int, 128 ≤ r → PR r = b
  high : ∀ c : UInt8, 128 ≤ c.toNat → p c = b
theorem getD_of_lt {α : Type} {s : List α} {d : α} {i : Nat} (h : i < s.length) : s[i]? = some (s.getD i d) := by
  rw [List.getElem?_eq_getElem h]; simp [List.getD_eq_getElem?_getD, List.getElem?_eq_getElem h]
theorem take_all_add {p : UInt8 → Bool} {s : List UInt8} {pos n : Nat} (h : (s.take pos).all p = true) (hn : ∀ k, k < n → p (s.getD (pos + k) 0) = true) (hle : pos + n ≤ s.length) : (s.take (pos + n)).all p = true := by
  rw [List.take_add, List.all_append, h, Bool.true_and, List.all_eq_true]
  intro x hx
  obtain ⟨i, hi⟩ := List.getElem?_of_mem hx
  rw [List.getElem?_take] at hi
  split at hi
  · rename_i hlt
    rw [List.getElem?_drop, getD_of_lt (d := 0) (by omega)] at hi
    cases hi
    exact hn i hlt
  · cases hi
theorem RuneB.step {PR : Int → Bool} {p : UInt8 → Bool} {b : Bool} (h : RuneB PR p b) {s : List UInt8} {pos : Nat} (hp : pos < s.length) (ha : (s.take pos).all p = true) :
    (PR (runeAt s pos).1 = true → (s.take (pos + (runeAt s pos).2)).all p = true) ∧ (PR (runeAt s pos).1 = false → s.all p = false) := by
  have bad : ∀ {x : UInt8}, s[pos]? = some x → p x = false → s.all p = false := by
    intro x hx hpx
    rw [← Bool.not_eq_true, List.all_eq_true]
    intro hh
    have := hh x (List.mem_of_getElem? hx)
    rw [hpx] at this; cases this
  have hg := getD_of_lt (s := s) (d := 0) hp
  by_cases hl : (s.getD pos 0).toNat < 128
  · rw [rune_low hl]
    refine ⟨fun he => ?_, fun he => bad hg (by rw [← h.low _ hl]; exact he)⟩
    refine take_all_add ha (fun k hk => ?_) (by omega)
    have : k = 0 := by omega
    subst this
    rw [Nat.add_zero, ← h.low _ hl]; exact he
  · obtain ⟨h1, h2, h3, h4, h5⟩ := rune_high hp (by omega)
    rw [h.rune _ h1]
    refine ⟨fun he => take_all_add ha (fun k hk => by rw [h.high _ (h5 k hk)]; exact he) h4, fun he => bad hg (by rw [h.high _ (by omega)]; exact he)⟩
theorem all_step {p : UInt8 → Bool} {s : List UInt8} {x : Nat} (hx : x < s.length) (h : (s.take x).all p = true) :
    (p (s.getD x 0) = true → (s.take (x + 1)).all p = true) ∧ (p (s.getD x 0) = false → s.all p = false) := by
  refine ⟨fun hp => take_all_add h (fun k hk => ?_) (by omega), fun hp => ?_⟩
  · have : k = 0 := by omega
    subst this; exact hp
  · rw [← Bool.not_eq_true, List.all_eq_true]
    intro hh
    have := hh _ (List.mem_of_getElem? (getD_of_lt (s := s) (d := 0) hx))
    rw [hp] at this; cases this
theorem take_succ_getD {α : Type} {s : List α} {x : Nat} (d : α) (hx : x < s.length) : s.take (x + 1) = s.take x ++ [s.getD x d] := by
  rw [List.take_succ_eq_append_getElem hx]
  simp [List.getD_eq_getElem?_getD, List.getElem?_eq_getElem hx]
theorem same_step {α : Type} {a b : List α} {x : Nat} (d : α) (hl : a.length = b.length) (hx : x < a.length) (h : a.take x = b.take x) :
    (a.getD x d = b.getD x d → a.take (x + 1) = b.take (x + 1)) ∧ (a.getD x d ≠ b.getD x d → a ≠ b) := by
  refine ⟨fun he => ?_, fun hne e => hne (by rw [e])⟩
  rw [take_succ_getD d hx, take_succ_getD d (by omega), h, he]
end Go.Abs
end
section
set_option linter.unusedVariables false
set_option linter.unusedSimpArgs false
namespace Go.Mdl
open Go Go.Abs
def lowerB (c : UInt8) : UInt8 := if 65 ≤ c.toNat ∧ c.toNat ≤ 90 then c + 32 else c
def lowerS (s : List UInt8) : List UInt8 := s.map lowerB
def blankB (c : UInt8) : Bool := decide (c = 32) || decide (c = 9)
def trimL (s : List UInt8) : List UInt8 := s.dropWhile blankB
def trimR (s : List UInt8) : List UInt8 := (s.reverse.dropWhile blankB).reverse
def trimS (s : List UInt8) : List UInt8 := trimR (trimL s)
end Go.Mdl
end
section
set_option linter.unusedVariables false
set_option linter.unusedSimpArgs false
namespace Go.Mdl
open Go Go.Abs
theorem trimL_cons {s : List UInt8} (h : 0 < s.length) (hb : blankB (s.getD 0 0) = true) : trimL (s.drop 1) = trimL s := by
  cases s with
  | nil => simp at h
  | cons a l => simp at hb; simp [trimL, hb]
theorem trimL_none {s : List UInt8} (h : 0 < s.length → blankB (s.getD 0 0) = false) : trimL s = s := by
  cases s with
  | nil => rfl
  | cons a l => have := h (by simp); simp at this; simp [trimL, this]
theorem getLast_drop {s : List UInt8} (h : 0 < s.length) : s = s.take (s.length - 1) ++ [s.getD (s.length - 1) 0] := by
  rw [← take_succ_getD 0 (by omega), List.take_of_length_le (by omega)]
theorem trimR_snoc {s : List UInt8} (h : 0 < s.length) (hb : blankB (s.getD (s.length - 1) 0) = true) : trimR (s.take (s.length - 1)) = trimR s := by
  have e := getLast_drop h
  generalize s.take (s.length - 1) = t at *
  generalize s.getD (s.length - 1) 0 = c at *
  subst e
  simp [trimR, hb]
theorem trimR_none {s : List UInt8} (h : 0 < s.length → blankB (s.getD (s.length - 1) 0) = false) : trimR s = s := by
  by_cases h0 : 0 < s.length
  · have e := getLast_drop h0
    have hb := h h0
    generalize s.take (s.length - 1) = t at *
    generalize s.getD (s.length - 1) 0 = c at *
    subst e
    simp [trimR, hb]
  · have : s = [] := List.length_eq_zero_iff.1 (by omega)
    subst this; rfl
theorem trimR_between {s : List UInt8} {x y : Nat} (hx : x < y) (hy : y ≤ s.length) (hb : blankB (s.getD (y - 1) 0) = true) : trimR ((s.take (y - 1)).drop x) = trimR ((s.take y).drop x) := by
  have h1 : ((s.take y).drop x).length = y - x := by simp; omega
  have h2 : ((s.take y).drop x).getD (y - x - 1) 0 = s.getD (y - 1) 0 := by
    simp only [List.getD_eq_getElem?_getD, List.getElem?_drop, List.getElem?_take]
    rw [if_pos (by omega), show x + (y - x - 1) = y - 1 by omega]
  have h3 : ((s.take y).drop x).take (y - x - 1) = (s.take (y - 1)).drop x := by
    rw [List.take_drop, List.take_take, show x + (y - x - 1) = y - 1 by omega, Nat.min_eq_left (by omega)]
  have := trimR_snoc (s := (s.take y).drop x) (by omega) (by rw [h1, h2]; exact hb)
  rw [h1, h3] at this
  exact this
theorem trimR_stop {s : List UInt8} {x y : Nat} (hx : x ≤ y) (hy : y ≤ s.length) (hb : x < y → blankB (s.getD (y - 1) 0) = false) : trimR ((s.take y).drop x) = (s.take y).drop x := by
  refine trimR_none (fun h => ?_)
  have h1 : ((s.take y).drop x).length = y - x := by simp; omega
  rw [h1] at h ⊢
  have h2 : ((s.take y).drop x).getD (y - x - 1) 0 = s.getD (y - 1) 0 := by
    simp only [List.getD_eq_getElem?_getD, List.getElem?_drop, List.getElem?_take]
    rw [if_pos (by omega), show x + (y - x - 1) = y - 1 by omega]
  rw [h2]; exact hb (by omega)
theorem drop_getD0 {s : List UInt8} {x : Nat} : (s.drop x).getD 0 0 = s.getD x 0 := by
  simp [List.getD_eq_getElem?_getD, List.getElem?_drop]
end Go.Mdl
end
section
set_option linter.unusedVariables false
set_option linter.unusedSimpArgs false
namespace Go.Proofs.Tryd.Oct
open Go Go.Abs Go.Proofs Go.Mdl
def T_specBlank : Tbl := fun g E args => nilT g E args
theorem T_specBlank_ok : TblOK Tryd.prog T_specBlank := nilT_ok
set_option maxRecDepth 100000 in
set_option maxHeartbeats 4000000 in
theorem specBlank (c : UInt8) : SpecE Tryd.prog 66 [] [enc_u8 c] [] (.bool (blankB c)) := by
  refine specF0 (C := T_specBlank) (wr := false) (D := fun _ => []) (U := fun _ => none) (res := [.bool (blankB c)]) Tryd.Ty.mixed T_specBlank_ok Tryd.func66 (nA := 1) (by decide +kernel) rfl (fun _ => rfl) ?_
  simp only [Tryd.f66, bodyOf, rlOf]
  rw [W_V]
  simp (config := {maxSteps := 2000000}) only [T_specBlank, go_sem, seval]
  (try simp (config := {maxSteps := 2000000}) only [gimp, impB, isT, go_sem, seval])
  rfl
def tb_specBlank : List Blk → List AV → Option (List Blk × AV × Prop)
  | [], [a0] => some ([], .bool (blankB (dec_u8 a0)), argOK a0 (enc_u8 (dec_u8 a0)))
  | _, _ => none
theorem tb_specBlank_ok : ∀ E args E' res p, tb_specBlank E args = some (E', res, p) → p → SpecE Tryd.prog 66 E args E' res := by
  intro E args E' res p h hp
  unfold tb_specBlank at h
  split at h
  · simp only [Option.some.injEq, Prod.mk.injEq] at h
    obtain ⟨rfl, rfl, rfl⟩ := h
    exact SpecE.args (specBlank _) (.cons hp .nil)
  · cases h
def T_specTrim : Tbl := fun g E args => (addT nilT 66 Go.Proofs.Tryd.Oct.tb_specBlank) g E args
theorem T_specTrim_ok : TblOK Tryd.prog T_specTrim := (addT_ok nilT_ok (by decide +kernel) Go.Proofs.Tryd.Oct.tb_specBlank_ok)
set_option maxRecDepth 100000 in
set_option maxHeartbeats 4000000 in
theorem specTrim (s : List UInt8) (hs : s.length ≤ maxLen) : SpecE Tryd.prog 46 [] [.str s] [] (.str (trimS s)) := by
  refine specF0 (C := T_specTrim) (wr := false) (D := fun _ => []) (U := fun _ => none) (res := [.str (trimS s)]) Tryd.Ty.mixed T_specTrim_ok Tryd.func46 (nA := 1) (by decide +kernel) rfl (fun _ => rfl) ?_
  simp only [Tryd.f46, bodyOf, rlOf]
  rw [W_V]
  simp (config := {maxSteps := 2000000}) only [T_specTrim, Go.Proofs.Tryd.Oct.tb_specBlank, go_sem, seval]
  (try simp (config := {maxSteps := 2000000}) only [gimp, impB, isT, go_sem, seval])
  refine VL_inv (X := Nat) (fun x => ⟨[(0, .str s), (3, .int .i64 x), (4, .int .i64 s.length)], []⟩) (fun x => x ≤ s.length ∧ trimL (s.drop x) = trimL s) (fun x => s.length - x) 0 ?_ ?_ ?_
  · simp only [go_sem, go_sem, seval]
    try rfl
  · exact ⟨Nat.zero_le _, by simp⟩
  rintro x ⟨hx, hn⟩
  have hm : s.length ≤ 9223372036854775807 := hs
  simp (config := {maxSteps := 2000000}) only [T_specTrim, Go.Proofs.Tryd.Oct.tb_specBlank, go_sem, seval]
  (try simp (config := {maxSteps := 2000000}) only [gimp, impB, isT, go_sem, seval])
  refine ⟨fun _ => by omega, fun h1 h2 => ⟨by omega, x + 1, by omega, ⟨by omega, ?_⟩, by omega⟩, fun h => ?_⟩
  · rw [← hn]
    have := trimL_cons (s := s.drop x) (by simp; omega) (by rw [drop_getD0]; exact h2)
    rw [← this, List.drop_drop]
  have hstop : trimL s = s.drop x := by
    rw [← hn]
    refine trimL_none (fun hl => ?_)
    rw [drop_getD0]
    simp at hl
    simpa [show (x : Int) < s.length by omega] using h
  refine VL_inv (X := Nat) (fun y => ⟨[(0, .str s), (3, .int .i64 x), (4, .int .i64 y)], []⟩) (fun y => x ≤ y ∧ y ≤ s.length ∧ trimR ((s.take y).drop x) = trimS s) (fun y => y - x) s.length ?_ ?_ ?_
  · simp only [go_sem, go_sem, seval]
    try rfl
  · refine ⟨hx, Nat.le_refl _, ?_⟩
    rw [List.take_length, trimS, hstop]
  rintro y ⟨h1, h2, h3⟩
  simp (config := {maxSteps := 2000000}) only [T_specTrim, Go.Proofs.Tryd.Oct.tb_specBlank, go_sem, seval]
  (try simp (config := {maxSteps := 2000000}) only [gimp, impB, isT, go_sem, seval])
  refine ⟨⟨fun _ => by omega, fun _ => by omega⟩, ⟨fun _ => by omega, fun _ => by omega⟩, fun hlt hb => ⟨by omega, y - 1, by omega, ⟨by omega, by omega, ?_⟩, by omega⟩, fun hb => ⟨by omega, ?_⟩⟩
  · rw [trimR_between (by omega) h2 hb]; exact h3
  · rw [← h3]
    refine (trimR_stop h1 h2 (fun hlt => ?_)).symm
    simpa [show (x : Int) < y by omega] using hb
def tb_specTrim : List Blk → List AV → Option (List Blk × AV × Prop)
  | [], [.str s] => some ([], .str (trimS s), (s.length ≤ maxLen))
  | _, _ => none
theorem tb_specTrim_ok : ∀ E args E' res p, tb_specTrim E args = some (E', res, p) → p → SpecE Tryd.prog 46 E args E' res := by
  intro E args E' res p h hp
  unfold tb_specTrim at h
  split at h
  · simp only [Option.some.injEq, Prod.mk.injEq] at h
    obtain ⟨rfl, rfl, rfl⟩ := h
    exact (specTrim _ hp)
  · cases h
def T_specTrimR : Tbl := fun g E args => nilT g E args
theorem T_specTrimR_ok : TblOK Tryd.prog T_specTrimR := nilT_ok
set_option maxRecDepth 100000 in
set_option maxHeartbeats 4000000 in
theorem specTrimR (s : List UInt8) (hs : s.length ≤ maxLen) : SpecE Tryd.prog 50 [] [.str s] [] (.str (trimS s)) := by
  refine specF0 (C := T_specTrimR) (wr := false) (D := fun _ => []) (U := fun _ => none) (res := [.str (trimS s)]) Tryd.Ty.mixed T_specTrimR_ok Tryd.func50 (nA := 1) (by decide +kernel) rfl (fun _ => rfl) ?_
  simp only [Tryd.f50, bodyOf, rlOf]
  rw [W_V]
  simp (config := {maxSteps := 2000000}) only [T_specTrimR, go_sem, seval]
  (try simp (config := {maxSteps := 2000000}) only [gimp, impB, isT, go_sem, seval])
  have hm : s.length ≤ 9223372036854775807 := hs
  refine VL_inv (X := List UInt8) (fun t => ⟨[(0, .str t)], []⟩) (fun t => t.length ≤ s.length ∧ trimL t = trimL s) (fun t => t.length) s ?_ ?_ ?_
  · simp only [go_sem, go_sem, seval]
    try rfl
  · exact ⟨Nat.le_refl _, rfl⟩
  rintro t ⟨hx, hn⟩
  simp (config := {maxSteps := 2000000}) only [T_specTrimR, go_sem, seval]
  (try simp (config := {maxSteps := 2000000}) only [gimp, impB, isT, go_sem, seval])
  refine ⟨fun h _ => h, fun h1 h2 => ⟨by omega, _, rfl, ⟨by simp; omega, ?_⟩, by simp; omega⟩, fun h => ?_⟩
  · rw [← hn]
    exact trimL_cons (by omega) (by simpa [blankB] using h2)
  have hstop : trimL s = t := by
    rw [← hn]
    refine trimL_none (fun hl => ?_)
    simpa [blankB, hl] using h
  refine VL_inv (X := List UInt8) (fun t => ⟨[(0, .str t)], []⟩) (fun t => t.length ≤ s.length ∧ trimR t = trimS s) (fun t => t.length) t ?_ ?_ ?_
  · simp only [go_sem, go_sem, seval]
    try rfl
  · exact ⟨hx, by rw [trimS, hstop]⟩
  clear h hstop hn hx t
  rintro t ⟨hx, hn⟩
  simp (config := {maxSteps := 2000000}) only [T_specTrimR, go_sem, seval]
  (try simp (config := {maxSteps := 2000000}) only [gimp, impB, isT, go_sem, seval])
  refine ⟨⟨fun _ => by omega, fun _ => by omega⟩, ⟨fun _ => by omega, fun _ => by omega⟩, ⟨fun _ _ => by omega, fun _ _ => by omega⟩, ⟨fun _ _ => by omega, fun _ _ => by omega⟩,
    fun h1 h2 => ⟨by omega, by omega, _, rfl, ⟨by simp; omega, ?_⟩, by simp; omega⟩, fun h => ?_⟩
  · rw [← hn]
    exact trimR_snoc (by omega) (by simpa [blankB] using h2)
  · rw [← hn]
    refine (trimR_none (fun hl => ?_)).symm
    simpa [blankB, hl] using h
def tb_specTrimR : List Blk → List AV → Option (List Blk × AV × Prop)
  | [], [.str s] => some ([], .str (trimS s), (s.length ≤ maxLen))
  | _, _ => none
theorem tb_specTrimR_ok : ∀ E args E' res p, tb_specTrimR E args = some (E', res, p) → p → SpecE Tryd.prog 50 E args E' res := by
  intro E args E' res p h hp
  unfold tb_specTrimR at h
  split at h
  · simp only [Option.some.injEq, Prod.mk.injEq] at h
    obtain ⟨rfl, rfl, rfl⟩ := h
    exact (specTrimR _ hp)
  · cases h
end Go.Proofs.Tryd.Oct
end
section
set_option linter.unusedVariables false
set_option linter.unusedSimpArgs false
namespace Go.Mdl
open Go Go.Abs
theorem lowerB_nat (c : UInt8) : (lowerB c).toNat = if 65 ≤ c.toNat ∧ c.toNat ≤ 90 then c.toNat + 32 else c.toNat := by
  have := c.toNat_lt
  unfold lowerB
  split
  · rw [UInt8.toNat_add]
    show (c.toNat + 32) % 256 = _
    omega
  · rfl
theorem lowerS_len (s : List UInt8) : (lowerS s).length = s.length := by simp [lowerS]
theorem lowerS_take {s : List UInt8} {x : Nat} (h : x < s.length) : lowerS (s.take (x + 1)) = lowerS (s.take x) ++ [lowerB (s.getD x 0)] := by
  rw [take_succ_getD 0 h]; simp [lowerS]
theorem lowerS_getD {s : List UInt8} {x : Nat} (h : x < s.length) : (lowerS s).getD x 0 = lowerB (s.getD x 0) := by
  simp [lowerS, List.getD_eq_getElem?_getD, h]
def foldS (a b : List UInt8) : Bool := decide (lowerS a = lowerS b)
end Go.Mdl
namespace Go.Proofs.Tryd.Oct
open Go Go.Abs Go.Proofs Go.Mdl
def T_specLow1 : Tbl := fun g E args => nilT g E args
theorem T_specLow1_ok : TblOK Tryd.prog T_specLow1 := nilT_ok
set_option maxRecDepth 100000 in
set_option maxHeartbeats 4000000 in
theorem specLow1 (c : UInt8) : SpecE Tryd.prog 92 [] [enc_u8 c] [] (enc_u8 (lowerB c)) := by
  refine specF0 (C := T_specLow1) (wr := false) (D := fun _ => []) (U := fun _ => none) (res := [enc_u8 (lowerB c)]) Tryd.Ty.mixed T_specLow1_ok Tryd.func92 (nA := 1) (by decide +kernel) rfl (fun _ => rfl) ?_
  simp only [Tryd.f92, bodyOf, rlOf]
  rw [W_V]
  simp (config := {maxSteps := 2000000}) only [T_specLow1, go_sem, seval]
  (try simp (config := {maxSteps := 2000000}) only [gimp, impB, isT, go_sem, seval])
  have := c.toNat_lt
  simp only [lowerB_nat]
  (try simp only [Bool.and_eq_false_iff, Bool.or_eq_false_iff, Bool.and_eq_true, Bool.or_eq_true, decide_eq_false_iff_not, decide_eq_true_eq] at *)
  (repeat' (first | apply And.intro | intro _))
  all_goals (first | omega | ((repeat' split) <;> (first | omega | rfl | skip)))
  · unfold lowerB; rw [if_neg (by omega)]
def tb_specLow1 : List Blk → List AV → Option (List Blk × AV × Prop)
  | [], [a0] => some ([], enc_u8 (lowerB (dec_u8 a0)), argOK a0 (enc_u8 (dec_u8 a0)))
  | _, _ => none
theorem tb_specLow1_ok : ∀ E args E' res p, tb_specLow1 E args = some (E', res, p) → p → SpecE Tryd.prog 92 E args E' res := by
  intro E args E' res p h hp
  unfold tb_specLow1 at h
  split at h
  · simp only [Option.some.injEq, Prod.mk.injEq] at h
    obtain ⟨rfl, rfl, rfl⟩ := h
    exact SpecE.args (specLow1 _) (.cons hp .nil)
  · cases h
def T_specLowerR : Tbl := fun g E args => nilT g E args
theorem T_specLowerR_ok : TblOK Tryd.prog T_specLowerR := nilT_ok
set_option maxRecDepth 100000 in
set_option maxHeartbeats 4000000 in
theorem specLowerR (s : List UInt8) (hs : s.length ≤ 1000000) : SpecE Tryd.prog 72 [] [.str s] [] (.str (lowerS s)) := by
  refine specF0 (C := T_specLowerR) (wr := false) (D := fun _ => []) (U := fun _ => none) (res := [.str (lowerS s)]) Tryd.Ty.mixed T_specLowerR_ok Tryd.func72 (nA := 1) (by decide +kernel) rfl (fun _ => rfl) ?_
  simp only [Tryd.f72, bodyOf, rlOf]
  rw [W_V]
  simp (config := {maxSteps := 2000000}) only [T_specLowerR, go_sem, seval]
  (try simp (config := {maxSteps := 2000000}) only [gimp, impB, isT, go_sem, seval])
  refine VL_inv (X := Nat) (fun x => ⟨[(0, .str s), (3, .ref 112 0 x x), (4, .int .i64 x)], [(112, .cells 1 false (.int .u8 0) ((lowerS (s.take x)).map byteAV))]⟩) (fun x => x ≤ s.length) (fun x => s.length - x) 0 ?_ ?_ ?_
  · simp only [go_sem, go_sem, seval]
    try rfl
  · exact Nat.zero_le _
  rintro x hx
  simp (config := {maxSteps := 2000000}) only [T_specLowerR, go_sem, seval]
  (try simp (config := {maxSteps := 2000000}) only [gimp, impB, isT, go_sem, seval])
  have hl : (lowerS (s.take x)).length = x := by simp [lowerS]; omega
  refine ⟨fun h => ?_, fun h => ?_⟩
  · have e := lowerS_take (s := s) (x := x) (by omega)
    have e2 : ∀ n : Int, n = ((lowerB (s.getD x 0)).toNat : Int) → List.map byteAV (lowerS (List.take x s)) ++ [AV.int .u8 n] = List.map byteAV (lowerS (List.take (x + 1) s)) := fun n hn => by
      rw [e, hn]; simp [byteAV]
    have := lowerB_nat (s.getD x 0)
    have := (s.getD x 0).toNat_lt
    refine ⟨⟨by omega, by omega⟩, fun h1 h2 => ⟨by omega, ⟨by omega, by omega, by omega⟩, by omega, x + 1, ⟨⟨rfl, by omega⟩, e2 _ ?_⟩, by omega, by omega⟩, fun h1 => ⟨⟨by omega, by omega, by omega⟩, by omega, x + 1, ⟨⟨rfl, by omega⟩, e2 _ ?_⟩, by omega, by omega⟩⟩
    · simp only [lowerB_nat]; rw [if_pos ⟨by omega, by omega⟩]; omega
    · simp only [Bool.and_eq_false_iff, decide_eq_false_iff_not] at h1
      simp only [lowerB_nat]; rw [if_neg (by omega)]
  · have : x = s.length := by omega
    subst this
    rw [List.take_length] at hl ⊢
    exact ⟨hl.symm, List.take_of_length_le (by omega)⟩
def tb_specLowerR : List Blk → List AV → Option (List Blk × AV × Prop)
  | [], [.str s] => some ([], .str (lowerS s), (s.length ≤ 1000000))
  | _, _ => none
theorem tb_specLowerR_ok : ∀ E args E' res p, tb_specLowerR E args = some (E', res, p) → p → SpecE Tryd.prog 72 E args E' res := by
  intro E args E' res p h hp
  unfold tb_specLowerR at h
  split at h
  · simp only [Option.some.injEq, Prod.mk.injEq] at h
    obtain ⟨rfl, rfl, rfl⟩ := h
    exact (specLowerR _ hp)
  · cases h
def T_specFold : Tbl := fun g E args => (addT nilT 92 Go.Proofs.Tryd.Oct.tb_specLow1) g E args
theorem T_specFold_ok : TblOK Tryd.prog T_specFold := (addT_ok nilT_ok (by decide +kernel) Go.Proofs.Tryd.Oct.tb_specLow1_ok)
set_option maxRecDepth 100000 in
set_option maxHeartbeats 4000000 in
theorem specFold (a b : List UInt8) (hs : a.length ≤ maxLen) : SpecE Tryd.prog 70 [] [.str a, .str b] [] (.bool (foldS a b)) := by
  refine specF0 (C := T_specFold) (wr := false) (D := fun _ => []) (U := fun _ => none) (res := [.bool (foldS a b)]) Tryd.Ty.mixed T_specFold_ok Tryd.func70 (nA := 2) (by decide +kernel) rfl (fun _ => rfl) ?_
  simp only [Tryd.f70, bodyOf, rlOf]
  rw [W_V]
  simp (config := {maxSteps := 2000000}) only [T_specFold, Go.Proofs.Tryd.Oct.tb_specLow1, go_sem, seval]
  (try simp (config := {maxSteps := 2000000}) only [gimp, impB, isT, go_sem, seval])
  refine ⟨fun h => ?_, fun h => ?_⟩
  · have : lowerS a ≠ lowerS b := fun e => h (by have := congrArg List.length e; simp only [lowerS_len] at this; omega)
    simp [foldS, this]
  have hl : a.length = b.length := by omega
  have hm : a.length ≤ 9223372036854775807 := hs
  refine VL_inv (X := Nat) (fun x => ⟨[(0, .str a), (1, .str b), (12, .int .i64 a.length), (13, .int .i64 x)], []⟩) (fun x => x ≤ a.length ∧ (lowerS a).take x = (lowerS b).take x) (fun x => a.length - x) 0 ?_ ?_ ?_
  · simp only [go_sem, go_sem, seval]
    try rfl
  · exact ⟨Nat.zero_le _, by simp⟩
  rintro x ⟨hx, hn⟩
  simp (config := {maxSteps := 2000000}) only [T_specFold, Go.Proofs.Tryd.Oct.tb_specLow1, go_sem, seval]
  (try simp (config := {maxSteps := 2000000}) only [gimp, impB, isT, go_sem, seval])
  refine ⟨fun hlt => ?_, fun hge => ?_⟩
  · have g1 := lowerS_getD (s := a) (x := x) (by omega)
    have g2 := lowerS_getD (s := b) (x := x) (by omega)
    obtain ⟨k1, k2⟩ := same_step (a := lowerS a) (b := lowerS b) (x := x) 0 (by simp only [lowerS_len]; omega) (by rw [lowerS_len]; omega) hn
    rw [g1, g2] at k1 k2
    refine ⟨by omega, by omega, fun hne => ?_, fun he => ⟨by omega, x + 1, by omega, ⟨by omega, k1 he⟩, by omega⟩⟩
    simp [foldS, k2 hne]
  · have : x = a.length := by omega
    subst this
    rw [List.take_of_length_le (by simp [lowerS_len]), List.take_of_length_le (by simp [lowerS_len]; omega)] at hn
    simp [foldS, hn]
def tb_specFold : List Blk → List AV → Option (List Blk × AV × Prop)
  | [], [.str a, .str b] => some ([], .bool (foldS a b), (a.length ≤ maxLen))
  | _, _ => none
theorem tb_specFold_ok : ∀ E args E' res p, tb_specFold E args = some (E', res, p) → p → SpecE Tryd.prog 70 E args E' res := by
  intro E args E' res p h hp
  unfold tb_specFold at h
  split at h
  · simp only [Option.some.injEq, Prod.mk.injEq] at h
    obtain ⟨rfl, rfl, rfl⟩ := h
    exact (specFold _ _ hp)
  · cases h
end Go.Proofs.Tryd.Oct
end
section
set_option linter.unusedVariables false
set_option linter.unusedSimpArgs false
namespace Go.Mdl
open Go Go.Abs
def upTo (c : UInt8) : List UInt8 → Nat
  | [] => 0
  | b :: l => if b = c then 0 else upTo c l + 1
theorem upTo_le (c : UInt8) : ∀ s, upTo c s ≤ s.length
  | [] => Nat.le_refl _
  | b :: l => by
    have := upTo_le c l
    simp only [upTo]; split <;> simp <;> omega
def idxB (c : UInt8) (s : List UInt8) : Int := if upTo c s < s.length then (upTo c s : Int) else -1
theorem indexByte_idxB (c : UInt8) : ∀ s, Lib.indexByte s c = idxB c s
  | [] => rfl
  | b :: l => by
    have h := indexByte_idxB c l
    have hl := upTo_le c l
    simp only [Lib.indexByte, idxB, upTo] at h ⊢
    by_cases e : b = c
    · subst e; simp
    · simp only [beq_eq_false_iff_ne.2 e, if_neg e, h, Bool.false_eq_true, if_false, List.length_cons]
      by_cases h2 : upTo c l < l.length
      · have h3 : ((upTo c l : Int) == -1) = false := by rw [beq_eq_false_iff_ne]; omega
        simp [h2, h3]
      · simp [h2]
theorem PostE.same {w : World} {ok : Nat → Nat → Prop} {L : Nat → Option Blk} {φ : Nat → Option Nat} {res : AV} {v : Value} (hh : HeapOK w ok L φ) (hv : R w ok L φ res v) : PostE w ok L φ w ok φ L res v :=
  ⟨Fr.refl _ _, hh, hv, Keeps.refl _ _ _ _, fun i b h => .inl ⟨i, h⟩, fun b o h => .inl h⟩
end Go.Mdl
end
section
set_option linter.unusedVariables false
set_option linter.unusedSimpArgs false
namespace Go.Mdl
open Go Go.Abs
def idxP {α : Type} (p : α → Bool) (l : List α) : Int := if l.any p = true then (l.findIdx p : Int) else -1
theorem idxP_ge {α : Type} (p : α → Bool) (l : List α) : (0 ≤ idxP p l) ↔ l.any p = true := by
  unfold idxP
  split <;> rename_i h
  · simp [h]
  · simp [h]
theorem idxP_hit {α : Type} {p : α → Bool} {l : List α} {x : Nat} (d : α) (hx : x < l.length) (hn : (l.take x).any p = false) (hp : p (l.getD x d) = true) : idxP p l = x := by
  have hg := getD_of_lt (s := l) (d := d) hx
  have ha : l.any p = true := List.any_eq_true.2 ⟨_, List.mem_of_getElem? hg, hp⟩
  unfold idxP
  rw [if_pos ha]
  congr 1
  rw [List.findIdx_eq hx]
  have he : l[x] = l.getD x d := by rw [List.getElem?_eq_getElem hx] at hg; exact Option.some.inj hg
  refine ⟨by rw [he]; exact hp, fun j hj => ?_⟩
  rw [← Bool.not_eq_true]
  intro h
  have : (l.take x).any p = true := List.any_eq_true.2 ⟨l[j], by
    rw [List.mem_take_iff_getElem]
    exact ⟨j, by omega, rfl⟩, h⟩
  rw [hn] at this; cases this
theorem idxP_none {α : Type} {p : α → Bool} {l : List α} (hn : l.any p = false) : idxP p l = -1 := by simp [idxP, hn]
theorem any_take_succ {α : Type} {p : α → Bool} {l : List α} {k : Nat} (d : α) (h : k < l.length) (hn : (l.take k).any p = false) : (l.take (k + 1)).any p = p (l.getD k d) := by
  rw [take_succ_getD d h, List.any_append, hn]; simp
def delP {α : Type} (d : α) (p : α → Bool) (l : List α) : List α := (l.filter fun x => !p x) ++ List.replicate (l.length - (l.filter fun x => !p x).length) d
theorem delP_len {α : Type} (d : α) (p : α → Bool) (l : List α) : (delP d p l).length = l.length := by
  have := List.length_filter_le (fun x => !p x) l
  simp [delP]; omega
theorem delP_take {α : Type} (d : α) (p : α → Bool) (l : List α) : (delP d p l).take (l.filter fun x => !p x).length = l.filter fun x => !p x := by simp [delP]
theorem idxP_none' {α : Type} {p : α → Bool} {l : List α} (h : idxP p l = -1) : l.any p = false := by
  rw [← Bool.not_eq_true]; intro h2
  have := (idxP_ge p l).2 h2
  omega
theorem filter_none {α : Type} {p : α → Bool} {l : List α} (h : l.any p = false) : (l.filter fun x => !p x) = l := by
  rw [List.filter_eq_self]
  intro x hx
  rw [List.any_eq_false] at h
  simpa using h x hx
theorem idxP_some {α : Type} {p : α → Bool} {l : List α} (d : α) (h : idxP p l ≠ -1) : ∃ x : Nat, idxP p l = x ∧ x < l.length ∧ (l.take x).any p = false ∧ p (l.getD x d) = true := by
  unfold idxP at h ⊢
  split at h
  · rename_i ha
    have hl := List.findIdx_lt_length.2 (List.any_eq_true.1 ha)
    rw [if_pos ha]
    refine ⟨_, rfl, hl, ?_, ?_⟩
    · rw [List.any_eq_false]
      intro y hy
      obtain ⟨j, hj, rfl⟩ := List.mem_take_iff_getElem.1 hy
      have := List.not_of_lt_findIdx (p := p) (xs := l) (i := j) (by omega)
      simpa using this
    · have h1 := List.findIdx_getElem (p := p) (xs := l) (w := hl)
      have h2 := getD_of_lt (s := l) (d := d) hl
      rw [List.getElem?_eq_getElem hl] at h2
      rw [← Option.some.inj h2]; exact h1
  · exact absurd rfl h
theorem set_take {α : Type} {c : List α} {i : Nat} (h : i < c.length) (w : α) : (c.set i w).take (i + 1) = c.take i ++ [w] := by
  rw [List.set_eq_take_append_cons_drop, if_pos h]
  have hl : (c.take i).length = i := by rw [List.length_take]; omega
  rw [List.take_append, hl, List.take_of_length_le (by omega), show i + 1 - i = 1 by omega]; rfl
theorem set_drop {α : Type} {c : List α} {i j : Nat} (h : i < j) (w : α) : (c.set i w).drop j = c.drop j := by
  apply List.ext_getElem?
  intro k
  rw [List.getElem?_drop, List.getElem?_drop, List.getElem?_set_ne (by omega)]
theorem drop_eq_getD {α : Type} {a b : List α} {j : Nat} (d : α) (h : a.drop j = b.drop j) : a.getD j d = b.getD j d := by
  have := congrArg (fun l => l[0]?) h
  simp only [List.getElem?_drop, Nat.add_zero] at this
  simp only [List.getD_eq_getElem?_getD, this]
theorem drop_eq_succ {α : Type} {a b : List α} {j : Nat} (h : a.drop j = b.drop j) : a.drop (j + 1) = b.drop (j + 1) := by
  rw [← List.drop_drop, h, List.drop_drop]
structure BoxOK (v : List AV) : Prop where
  pids : pidsL v = []
  ren : ∀ σ, v.map (ren σ) = v
  ref : oneRef v = none
  cells : pureEl v = true
theorem boxList (n : Nat) (l : List AV) : BoxOK [.list n l] := ⟨rfl, fun _ => rfl, rfl, rfl⟩
def enc_fld (p : List UInt8 × List UInt8) : AV := .agg [.str p.1, .str p.2]
def dec_fld : AV → List UInt8 × List UInt8
  | .agg [.str a, .str b] => (a, b)
  | _ => ([], [])
theorem boxFld (p : List UInt8 × List UInt8) : BoxOK [.agg [.str p.1, .str p.2]] := ⟨rfl, fun _ => rfl, rfl, rfl⟩
theorem getD_map_fld (l : List (List UInt8 × List UInt8)) (n : Nat) : (l.map enc_fld).getD n (.agg [.str [], .str []]) = enc_fld (l.getD n ([], [])) := by
  simp only [List.getD_eq_getElem?_getD, List.getElem?_map]; cases l[n]? <;> rfl
def enc_flds (l : List (List UInt8 × List UInt8)) : AV := .list 2 (l.map enc_fld)
def dec_flds (a : AV) : List (List UInt8 × List UInt8) := (listOf a).map dec_fld
theorem map_fld (l : List (List UInt8 × List UInt8)) : (l.map enc_fld).map dec_fld = l := by simp [List.map_map, Function.comp_def, enc_fld, dec_fld]
theorem pure_fld (p : List UInt8 × List UInt8) : pureBL (enc_fld p).cells = true := rfl
theorem pids_fld (p : List UInt8 × List UInt8) : pids (enc_fld p) = [] := rfl
theorem ren_fld (σ : Nat → Nat) (p : List UInt8 × List UInt8) : ren σ (enc_fld p) = enc_fld p := rfl
theorem ref_fld (p : List UInt8 × List UInt8) : refOf (enc_fld p) = none := rfl
theorem cells_fld (p : List UInt8 × List UInt8) : (enc_fld p).cells = [.str p.1, .str p.2] := rfl
theorem pureEl_fld (l : List (List UInt8 × List UInt8)) : pureEl (l.map enc_fld) = true := pureEl_map enc_fld l (fun _ => rfl)
theorem oneRef_fld (l : List (List UInt8 × List UInt8)) : oneRef (l.map enc_fld) = none := oneRef_map (fun _ => rfl) l
theorem pidsL_fld (l : List (List UInt8 × List UInt8)) : pidsL (l.map enc_fld) = [] := pidsL_map (fun _ => rfl) l
theorem renL_fld (σ : Nat → Nat) (l : List (List UInt8 × List UInt8)) : (l.map enc_fld).map (ren σ) = l.map enc_fld := ren_map (fun _ => rfl) l
attribute [go_sem] enc_fld pureEl_fld oneRef_fld pidsL_fld renL_fld cells_fld getD_map_fld map_fld pure_fld pids_fld ren_fld ref_fld enc_flds dec_flds
end Go.Mdl
end
section
set_option linter.unusedVariables false
set_option linter.unusedSimpArgs false
namespace Go.Mdl
open Go Go.Abs
structure Scan where
  q : Bool
  s : Bool
  d : Nat
def Scan.closed (x : Scan) : Bool := !x.q && (!x.s && decide (x.d = 0))
def Scan.see (x : Scan) (c : UInt8) : Scan :=
  if x.s = true then ⟨x.q, false, x.d⟩
  else if c = 92 then ⟨x.q, x.q || decide (0 < x.d), x.d⟩
  else if x.q = true then ⟨!decide (c = 34), x.s, x.d⟩
  else if c = 40 then ⟨x.q, x.s, x.d + 1⟩
  else if 0 < x.d ∧ c = 41 then ⟨x.q, x.s, x.d - 1⟩
  else if x.d = 0 ∧ c = 34 then ⟨true, x.s, x.d⟩
  else x
def Scan.run (x : Scan) (l : List UInt8) : Scan := l.foldl Scan.see x
theorem trimL_len (s : List UInt8) : (trimL s).length ≤ s.length := (List.dropWhile_sublist _).length_le
theorem trimS_len (s : List UInt8) : (trimS s).length ≤ s.length := by
  have h1 := trimL_len s
  have h2 : (trimR (trimL s)).length ≤ (trimL s).length := by
    have := (List.dropWhile_sublist blankB (l := (trimL s).reverse)).length_le
    simpa [trimR] using this
  exact Nat.le_trans h2 h1
def rangeIn : Code → Option (Array Tmp × Code × Code)
  | .seq a b => match rangeIn a with | some r => some r | none => rangeIn b
  | .cond _ t f => match rangeIn t with | some r => some r | none => rangeIn f
  | .block _ b => rangeIn b
  | .loop b => rangeIn b
  | .rangeFunc _ ps A B => some (ps, A, B)
  | _ => none
def lcOf (fn : Func) (n : Nat) : LoopC := match rangeIn (bodyOf fn) with
  | some (ps, A, B) => ⟨ps, A, B, n⟩
  | none => ⟨#[], .skip, .skip, n⟩
end Go.Mdl
end
section
set_option linter.unusedVariables false
set_option linter.unusedSimpArgs false
namespace Go.Proofs.Tryd.Lib
open Go Go.Abs Go.Proofs Go.Mdl
set_option maxRecDepth 100000 in
set_option maxHeartbeats 4000000 in
theorem specIndexByteString (s : List UInt8) (c : UInt8) : SpecE Tryd.prog 114 [] [.str s, enc_u8 c] [] (.int .i64 (idxB c s)) := by
  intro w ok φ vs hh hl hr
  obtain ⟨v0, v1, rfl⟩ : ∃ v0 v1, vs = [v0, v1] := by
    match vs, hl with
    | [a, b], _ => exact ⟨a, b, rfl⟩
  have e0 := (hr 0 _ _ rfl rfl).strInv
  have e1 := (hr 1 _ _ rfl rfl).intInv
  subst e0 e1
  refine ⟨.value (.int .i64 (idxB c s)), w, ?_, _, ok, φ, rfl, PostE.same hh (.pure _ _ (.int _ _))⟩
  simp only [InvF, if_neg (show ¬ (114 : FuncId) = yldF by decide)]
  rw [run_callFunc_extern Tryd.func114 (by kernel_rfl) (by kernel_rfl) (by kernel_rfl) (e := Extern.BytealgIndexByte.indexByte) (by kernel_rfl), Go.Lib.run_indexByteString]
  simp only [Result.andThen]
  rw [indexByte_idxB]
  simp
def tb_specIndexByteString : List Blk → List AV → Option (List Blk × AV × Prop)
  | [], [.str s, a1] => some ([], .int .i64 (idxB (dec_u8 a1) s), argOK a1 (enc_u8 (dec_u8 a1)))
  | _, _ => none
theorem tb_specIndexByteString_ok : ∀ E args E' res p, tb_specIndexByteString E args = some (E', res, p) → p → SpecE Tryd.prog 114 E args E' res := by
  intro E args E' res p h hp
  unfold tb_specIndexByteString at h
  split at h
  · simp only [Option.some.injEq, Prod.mk.injEq] at h
    obtain ⟨rfl, rfl, rfl⟩ := h
    exact SpecE.args (specIndexByteString _ _) (.cons (argOK.refl _) (.cons hp .nil))
  · cases h
def T_specSLIndexByte : Tbl := fun g E args => (addT nilT 114 Go.Proofs.Tryd.Lib.tb_specIndexByteString) g E args
theorem T_specSLIndexByte_ok : TblOK Tryd.prog T_specSLIndexByte := (addT_ok nilT_ok (by decide +kernel) Go.Proofs.Tryd.Lib.tb_specIndexByteString_ok)
set_option maxRecDepth 100000 in
set_option maxHeartbeats 4000000 in
theorem specSLIndexByte (s : List UInt8) (c : UInt8) : SpecE Tryd.prog 105 [] [.str s, enc_u8 c] [] (.int .i64 (idxB c s)) := by
  refine specF0 (C := T_specSLIndexByte) (wr := false) (D := fun _ => []) (U := fun _ => none) (res := [.int .i64 (idxB c s)]) Tryd.Ty.mixed T_specSLIndexByte_ok Tryd.func105 (nA := 2) (by decide +kernel) rfl (fun _ => rfl) ?_
  simp only [Tryd.f105, bodyOf, rlOf]
  rw [W_V]
  simp (config := {maxSteps := 2000000}) only [T_specSLIndexByte, Go.Proofs.Tryd.Lib.tb_specIndexByteString, go_sem, seval]
  (try simp (config := {maxSteps := 2000000}) only [gimp, impB, isT, go_sem, seval])
def tb_specSLIndexByte : List Blk → List AV → Option (List Blk × AV × Prop)
  | [], [.str s, a1] => some ([], .int .i64 (idxB (dec_u8 a1) s), argOK a1 (enc_u8 (dec_u8 a1)))
  | _, _ => none
theorem tb_specSLIndexByte_ok : ∀ E args E' res p, tb_specSLIndexByte E args = some (E', res, p) → p → SpecE Tryd.prog 105 E args E' res := by
  intro E args E' res p h hp
  unfold tb_specSLIndexByte at h
  split at h
  · simp only [Option.some.injEq, Prod.mk.injEq] at h
    obtain ⟨rfl, rfl, rfl⟩ := h
    exact SpecE.args (specSLIndexByte _ _) (.cons (argOK.refl _) (.cons hp .nil))
  · cases h
def T_specIndex1 : Tbl := fun g E args => (addT nilT 105 Go.Proofs.Tryd.Lib.tb_specSLIndexByte) g E args
theorem T_specIndex1_ok : TblOK Tryd.prog T_specIndex1 := (addT_ok nilT_ok (by decide +kernel) Go.Proofs.Tryd.Lib.tb_specSLIndexByte_ok)
set_option maxRecDepth 100000 in
set_option maxHeartbeats 4000000 in
theorem specIndex1 (s : List UInt8) (c : UInt8) (hs : s.length ≤ maxLen) : SpecE Tryd.prog 94 [] [.str s, .str [c]] [] (.int .i64 (idxB c s)) := by
  refine specF0 (C := T_specIndex1) (wr := false) (D := fun _ => []) (U := fun _ => none) (res := [.int .i64 (idxB c s)]) Tryd.Ty.mixed T_specIndex1_ok Tryd.func94 (nA := 2) (by decide +kernel) rfl (fun _ => rfl) ?_
  simp only [Tryd.f94, bodyOf, rlOf]
  rw [W_V]
  simp (config := {maxSteps := 2000000}) only [T_specIndex1, Go.Proofs.Tryd.Lib.tb_specSLIndexByte, go_sem, seval]
  (try simp (config := {maxSteps := 2000000}) only [gimp, impB, isT, go_sem, seval])
  rintro rfl
  simp [idxB, upTo]
def tb_specIndex1 : List Blk → List AV → Option (List Blk × AV × Prop)
  | [], [.str s, .str [c]] => some ([], .int .i64 (idxB c s), (s.length ≤ maxLen))
  | _, _ => none
theorem tb_specIndex1_ok : ∀ E args E' res p, tb_specIndex1 E args = some (E', res, p) → p → SpecE Tryd.prog 94 E args E' res := by
  intro E args E' res p h hp
  unfold tb_specIndex1 at h
  split at h
  · simp only [Option.some.injEq, Prod.mk.injEq] at h
    obtain ⟨rfl, rfl, rfl⟩ := h
    exact (specIndex1 _ _ hp)
  · cases h
end Go.Proofs.Tryd.Lib
end
section
set_option linter.unusedVariables false
set_option linter.unusedSimpArgs false
namespace Go.Mdl
open Go Go.Abs
def consHd (x : UInt8) : List (List UInt8) → List (List UInt8)
  | [] => [[x]]
  | w :: ws => (x :: w) :: ws
def splitB (c : UInt8) : List UInt8 → List (List UInt8)
  | [] => [[]]
  | x :: r => if x = c then [] :: splitB c r else consHd x (splitB c r)
def cntB (c : UInt8) (s : List UInt8) : Nat := s.countP (fun x => decide (x = c))
theorem consHd_len (x : UInt8) (l : List (List UInt8)) (h : l ≠ []) : (consHd x l).length = l.length := by cases l with | nil => exact absurd rfl h | cons w ws => rfl
theorem splitB_ne (c : UInt8) : ∀ s, splitB c s ≠ []
  | [] => by simp [splitB]
  | x :: r => by
    simp only [splitB]
    split
    · simp
    · cases splitB c r <;> simp [consHd]
theorem splitB_len (c : UInt8) : ∀ s, (splitB c s).length = cntB c s + 1
  | [] => rfl
  | x :: r => by
    have ih := splitB_len c r
    simp only [splitB, cntB, List.countP_cons] at ih ⊢
    by_cases h : x = c
    · simp [h, ih]
    · rw [if_neg h, consHd_len _ _ (splitB_ne c r), ih]; simp [h]
theorem splitB_app {c : UInt8} : ∀ {cur r : List UInt8}, (∀ x ∈ cur, x ≠ c) → splitB c (cur ++ c :: r) = cur :: splitB c r
  | [], r, _ => by simp [splitB]
  | x :: cur, r, h => by
    rw [List.cons_append, splitB, if_neg (h x (by simp)), splitB_app (fun y hy => h y (by simp [hy]))]
    rfl
theorem splitB_no {c : UInt8} : ∀ {cur : List UInt8}, (∀ x ∈ cur, x ≠ c) → splitB c cur = [cur]
  | [], _ => rfl
  | x :: cur, h => by
    rw [splitB, if_neg (h x (by simp)), splitB_no (fun y hy => h y (by simp [hy]))]
    rfl
theorem splitB_mem_len {c : UInt8} : ∀ {s w : List UInt8}, w ∈ splitB c s → w.length ≤ s.length
  | [], w, h => by simp [splitB] at h; subst h; simp
  | y :: r, w, h => by
    simp only [splitB] at h
    have ih := fun w (hw : w ∈ splitB c r) => splitB_mem_len (s := r) hw
    split at h
    · rcases List.mem_cons.1 h with h | h
      · subst h; simp
      · have := ih w h; simp only [List.length_cons]; omega
    · cases hs : splitB c r with
      | nil => exact absurd hs (splitB_ne c r)
      | cons v vs =>
        rw [hs] at h ih
        rcases List.mem_cons.1 h with h | h
        · subst h; have := ih v (by simp); simp only [List.length_cons]; omega
        · have := ih w (by simp [h]); simp only [List.length_cons]; omega
theorem upTo_free (c : UInt8) : ∀ s : List UInt8, ∀ x ∈ s.take (upTo c s), x ≠ c
  | [] => by simp [upTo]
  | y :: r => by
    intro x hx
    simp only [upTo] at hx
    split at hx
    · simp at hx
    · rename_i hy
      rw [List.take_succ_cons] at hx
      rcases List.mem_cons.1 hx with rfl | hx
      · exact hy
      · exact upTo_free c r x hx
end Go.Mdl
namespace Go.Mdl
open Go Go.Abs
theorem upTo_split {c : UInt8} : ∀ {s : List UInt8}, upTo c s < s.length → s = s.take (upTo c s) ++ c :: s.drop (upTo c s + 1)
  | [], h => by simp [upTo] at h
  | y :: r, h => by
    simp only [upTo] at h ⊢
    by_cases hy : y = c
    · subst hy; simp
    · rw [if_neg hy] at h ⊢
      simp only [List.length_cons] at h
      have := upTo_split (c := c) (s := r) (by omega)
      rw [List.take_succ_cons, List.cons_append, List.drop_succ_cons, ← this]
theorem splitB_first {c : UInt8} {s : List UInt8} (h : upTo c s < s.length) : splitB c s = s.take (upTo c s) :: splitB c (s.drop (upTo c s + 1)) := by
  conv => lhs; rw [upTo_split h]
  exact splitB_app (upTo_free c s)
theorem splitB_last {c : UInt8} {s : List UInt8} (h : ¬ upTo c s < s.length) : splitB c s = [s] := by
  have := upTo_free c s
  rw [List.take_of_length_le (by omega)] at this
  exact splitB_no this
theorem cntB_le (c : UInt8) (s : List UInt8) : cntB c s ≤ s.length := List.countP_le_length
end Go.Mdl
namespace Go.Proofs.Tryd.Lib
open Go Go.Abs Go.Proofs Go.Mdl
def T_specIndexS : Tbl := fun g E args => (addT nilT 94 Go.Proofs.Tryd.Lib.tb_specIndex1) g E args
theorem T_specIndexS_ok : TblOK Tryd.prog T_specIndexS := (addT_ok nilT_ok (by decide +kernel) Go.Proofs.Tryd.Lib.tb_specIndex1_ok)
set_option maxRecDepth 100000 in
set_option maxHeartbeats 4000000 in
theorem specIndexS (s : List UInt8) (c : UInt8) (hs : s.length ≤ maxLen) : SpecE Tryd.prog 81 [] [.str s, .str [c]] [] (.int .i64 (idxB c s)) := by
  refine specF0 (C := T_specIndexS) (wr := false) (D := fun _ => []) (U := fun _ => none) (res := [.int .i64 (idxB c s)]) Tryd.Ty.mixed T_specIndexS_ok Tryd.func81 (nA := 2) (by decide +kernel) rfl (fun _ => rfl) ?_
  simp only [Tryd.f81, bodyOf, rlOf]
  rw [W_V]
  simp (config := {maxSteps := 2000000}) only [T_specIndexS, Go.Proofs.Tryd.Lib.tb_specIndex1, go_sem, seval]
  (try simp (config := {maxSteps := 2000000}) only [gimp, impB, isT, go_sem, seval])
  exact hs
def tb_specIndexS : List Blk → List AV → Option (List Blk × AV × Prop)
  | [], [.str s, .str [c]] => some ([], .int .i64 (idxB c s), (s.length ≤ maxLen))
  | _, _ => none
theorem tb_specIndexS_ok : ∀ E args E' res p, tb_specIndexS E args = some (E', res, p) → p → SpecE Tryd.prog 81 E args E' res := by
  intro E args E' res p h hp
  unfold tb_specIndexS at h
  split at h
  · simp only [Option.some.injEq, Prod.mk.injEq] at h
    obtain ⟨rfl, rfl, rfl⟩ := h
    exact (specIndexS _ _ hp)
  · cases h
end Go.Proofs.Tryd.Lib
end
section
set_option linter.unusedVariables false
set_option linter.unusedSimpArgs false
namespace Go.Mdl
open Go Go.Abs
def digI (r : Int) : Int := if 48 ≤ r ∧ r ≤ 57 then r - 48 else if 97 ≤ r ∧ r ≤ 102 then r - 87 else if 65 ≤ r ∧ r ≤ 70 then r - 55 else -1
def digB (c : UInt8) : Int := digI c.toNat
def isDig (b : Int) (c : UInt8) : Bool := decide (0 ≤ digB c ∧ digB c < b)
def refDig (c : UInt8) : Int := if digB c < 0 then 99 else digB c
def numV (b : Int) (s : List UInt8) : Int := s.foldl (fun n c => n * b + digB c) 0
def numErr (b most : Int) (s : List UInt8) : Int := if s = [] then 2 else if s.all (isDig b) = true then (if most < numV b s then 5 else 0) else 3
def numVal (b most : Int) (s : List UInt8) : Int := if numErr b most s = 0 then numV b s else 0
theorem digI_range (r : Int) : -1 ≤ digI r ∧ digI r ≤ 15 := by
  unfold digI
  split
  · omega
  · split
    · omega
    · split <;> omega
theorem digI_high {r : Int} (h : 128 ≤ r) : digI r = -1 := by
  unfold digI
  rw [if_neg (by omega), if_neg (by omega), if_neg (by omega)]
theorem isDig_iff (b : Int) (c : UInt8) : isDig b c = true ↔ 0 ≤ digB c ∧ digB c < b := by simp [isDig]
theorem refDig_ge {b : Int} (hb : b = 10 ∨ b = 16) (c : UInt8) : (b ≤ refDig c) ↔ isDig b c = false := by
  rw [← Bool.not_eq_true, isDig_iff]
  have := digI_range c.toNat
  unfold refDig digB
  split <;> omega
theorem refDig_of {b : Int} {c : UInt8} (h : isDig b c = true) : refDig c = digB c := by
  rw [isDig_iff] at h
  unfold refDig; rw [if_neg (by omega)]
theorem numV_snoc (b : Int) (s : List UInt8) (c : UInt8) : numV b (s ++ [c]) = numV b s * b + digB c := by simp [numV]
theorem numV_go (b : Int) : ∀ (s : List UInt8) (n : Int), s.foldl (fun n c => n * b + digB c) n = n * b ^ s.length + numV b s
  | [], n => by simp [numV]
  | c :: r, n => by
    simp only [List.foldl_cons, List.length_cons, numV]
    rw [numV_go b r, numV_go b r (0 * b + digB c), Int.pow_succ, Int.add_mul]
    have e : n * b * b ^ r.length = n * (b ^ r.length * b) := by rw [Int.mul_assoc, Int.mul_comm b]
    rw [e]
    have z : (0 * b + digB c) = digB c := by omega
    rw [z]
    omega
theorem numV_append (b : Int) (s t : List UInt8) : numV b (s ++ t) = numV b s * b ^ t.length + numV b t := by
  show (s ++ t).foldl _ 0 = _
  rw [List.foldl_append, numV_go]; rfl
theorem numV_cons (b : Int) (c : UInt8) (t : List UInt8) : numV b (c :: t) = digB c * b ^ t.length + numV b t := by
  have := numV_append b [c] t
  simpa [numV] using this
theorem pow_pos {b : Int} (hb : 1 ≤ b) : ∀ n : Nat, 1 ≤ b ^ n
  | 0 => by simp
  | n + 1 => by
    rw [Int.pow_succ]
    have h1 := pow_pos hb n
    have := Int.mul_le_mul h1 hb (by omega) (by omega)
    omega
theorem numV_nonneg {b : Int} (hb : 1 ≤ b) : ∀ (s : List UInt8), s.all (isDig b) = true → 0 ≤ numV b s
  | [], _ => by simp [numV]
  | c :: r, h => by
    simp only [List.all_cons, Bool.and_eq_true] at h
    have h1 := numV_nonneg hb r h.2
    have h2 := (isDig_iff b c).1 h.1
    rw [numV_cons]
    have := Int.mul_nonneg h2.1 (show 0 ≤ b ^ r.length by have := pow_pos hb r.length; omega)
    omega
theorem numV_mono {b : Int} (hb : 1 ≤ b) {s t : List UInt8} (hs : s.all (isDig b) = true) (h : t.all (isDig b) = true) : numV b s ≤ numV b (s ++ t) := by
  rw [numV_append]
  have h1 := numV_nonneg hb t h
  have h2 := numV_nonneg hb s hs
  have h3 := Int.mul_le_mul_of_nonneg_left (pow_pos hb t.length) h2
  omega
theorem all_take {p : UInt8 → Bool} {s : List UInt8} (n : Nat) (h : s.all p = true) : (s.take n).all p = true := by
  rw [List.all_eq_true] at h ⊢
  exact fun x hx => h x (List.mem_of_mem_take hx)
theorem all_drop {p : UInt8 → Bool} {s : List UInt8} (n : Nat) (h : s.all p = true) : (s.drop n).all p = true := by
  rw [List.all_eq_true] at h ⊢
  exact fun x hx => h x (List.mem_of_mem_drop hx)
theorem all_get {p : UInt8 → Bool} {s : List UInt8} {x : Nat} (h : s.all p = true) (hx : x < s.length) : p (s.getD x 0) = true := by
  rw [List.all_eq_true] at h
  exact h _ (List.mem_of_getElem? (getD_of_lt (s := s) (d := 0) hx))
theorem numV_take_le {b : Int} (hb : 1 ≤ b) {s : List UInt8} (h : s.all (isDig b) = true) (n : Nat) : numV b (s.take n) ≤ numV b s := by
  have := numV_mono hb (all_take n h) (all_drop n h)
  rwa [List.take_append_drop] at this
theorem numV_take_succ (b : Int) {s : List UInt8} {x : Nat} (hx : x < s.length) : numV b (s.take (x + 1)) = numV b (s.take x) * b + digB (s.getD x 0) := by
  rw [take_succ_getD 0 hx, numV_snoc]
theorem numV_great {b : Int} (hb : 1 ≤ b) {s : List UInt8} (h : s.all (isDig b) = true) (hl : 1 ≤ s.length) (h0 : s.getD 0 0 ≠ 48) : b ^ (s.length - 1) ≤ numV b s := by
  cases s with
  | nil => simp at hl
  | cons c r =>
    simp only [List.all_cons, Bool.and_eq_true] at h
    have h2 := (isDig_iff b c).1 h.1
    have h1 := numV_nonneg hb r h.2
    have hc : 1 ≤ digB c := by
      rcases Int.lt_or_le (digB c) 1 with h3 | h3
      · exfalso
        have e : digB c = 0 := by omega
        unfold digB digI at e
        have hn : c.toNat = 48 := by
          split at e
          · omega
          · split at e
            · omega
            · split at e <;> omega
        exact h0 (by simpa using UInt8.toNat.inj (b := 48) (by simpa using hn))
      · exact h3
    rw [numV_cons]
    have := Int.mul_le_mul_of_nonneg_right hc (show 0 ≤ b ^ r.length by have := pow_pos hb r.length; omega)
    simp only [List.length_cons, Nat.add_sub_cancel]
    omega
theorem numV_zero {b : Int} {s : List UInt8} (hl : 1 ≤ s.length) (h0 : s.getD 0 0 = 48) : numV b (s.drop 1) = numV b s := by
  cases s with
  | nil => simp at hl
  | cons c r =>
    simp at h0
    subst h0
    rw [numV_cons]
    have : digB 48 = 0 := by decide
    simp [this]
theorem pow_mono {b : Int} (hb : 1 ≤ b) {m n : Nat} (h : m ≤ n) : b ^ m ≤ b ^ n := by
  induction n with
  | zero => have : m = 0 := by omega
            subst this; exact Int.le_refl _
  | succ n ih =>
    by_cases e : m = n + 1
    · subst e; exact Int.le_refl _
    · have h1 := ih (by omega)
      rw [Int.pow_succ]
      have := Int.mul_le_mul_of_nonneg_left hb (show 0 ≤ b ^ n by have := pow_pos hb n; omega)
      omega
theorem pow_19 {b : Int} (hb : b = 10 ∨ b = 16) {n : Nat} (h : 19 ≤ n) : 9223372036854775807 < b ^ n := by
  have h1 : (1:Int) ≤ b := by omega
  have h2 := pow_mono h1 h
  have h3 : 9223372036854775807 < b ^ 19 := by rcases hb with rfl | rfl <;> decide
  omega
theorem over_step {b most n d : Int} (hb : b = 10 ∨ b = 16) (hn : 0 ≤ n) (hd : 0 ≤ d) (h : d ≤ most) : ((most - d).tdiv b < n) = (most < n * b + d) := by
  rw [Int.tdiv_eq_ediv_of_nonneg (by omega)]
  apply propext
  rcases hb with rfl | rfl <;> constructor <;> intro h <;> omega
theorem tdiv_range {b m : Int} (hb : b = 10 ∨ b = 16) (h0 : 0 ≤ m) (h1 : m ≤ 9223372036854775807) : 0 ≤ m.tdiv b ∧ m.tdiv b ≤ 9223372036854775807 := by
  rw [Int.tdiv_eq_ediv_of_nonneg h0]
  rcases hb with rfl | rfl <;> omega
theorem num_bad {b most : Int} {s : List UInt8} {x : Nat} (hx : x < s.length) (h : isDig b (s.getD x 0) = false) : numErr b most s = 3 ∧ numVal b most s = 0 := by
  have h1 : ¬ s = [] := fun e => by simp [e] at hx
  have h2 : ¬ s.all (isDig b) = true := fun h2 => by rw [all_get h2 hx] at h; cases h
  have : numErr b most s = 3 := by simp [numErr, h1, h2]
  exact ⟨this, by simp [numVal, this]⟩
theorem num_over {b most : Int} {s : List UInt8} (h1 : ¬ s = []) (h2 : s.all (isDig b) = true) (h : most < numV b s) : numErr b most s = 5 ∧ numVal b most s = 0 := by
  have : numErr b most s = 5 := by simp [numErr, h1, h2, h]
  exact ⟨this, by simp [numVal, this]⟩
theorem num_good {b most : Int} {s : List UInt8} (h1 : ¬ s = []) (h2 : s.all (isDig b) = true) (h : numV b s ≤ most) : numErr b most s = 0 ∧ numVal b most s = numV b s := by
  have : numErr b most s = 0 := by simp [numErr, h1, h2]; omega
  exact ⟨this, by simp [numVal, this]⟩
theorem dig_rune {s : List UInt8} {x : Nat} (hx : x < s.length) : (0 ≤ digI (runeAt s x).1 → (s.getD x 0).toNat < 128) ∧ digI (runeAt s x).1 = digB (s.getD x 0) ∧ (0 ≤ digI (runeAt s x).1 → (runeAt s x).2 = 1) := by
  by_cases hl : (s.getD x 0).toNat < 128
  · rw [rune_low hl]; exact ⟨fun _ => hl, rfl, fun _ => rfl⟩
  · obtain ⟨h1, _⟩ := rune_high hx (by omega)
    rw [digI_high h1]
    refine ⟨fun h => by omega, ?_, fun h => by omega⟩
    rw [digB, digI_high (by omega)]
theorem refDig_lt {b : Int} (hb : b = 10 ∨ b = 16) (c : UInt8) : (refDig c < b) ↔ isDig b c = true := by
  have := refDig_ge hb c
  rw [← Bool.not_eq_false, ← this]; omega
def sign16 : List UInt8 := [48, 49, 50, 51, 52, 53, 54, 55, 56, 57, 97, 98, 99, 100, 101, 102]
def signN (n : Nat) : UInt8 := sign16.getD n 0
def digsF (b : Nat) : Nat → Nat → List UInt8
  | 0, _ => []
  | f + 1, n => if n < b then [signN n] else digsF b f (n / b) ++ [signN (n % b)]
def digs (b n : Nat) : List UInt8 := digsF b 70 n
theorem half_lt {b n f : Nat} (hb : 2 ≤ b) (h : n < 2 ^ (f + 1)) : n / b < 2 ^ f := by
  have h1 : n / b ≤ n / 2 := Nat.div_le_div_left hb (by omega)
  rw [Nat.pow_succ] at h
  omega
theorem digsF_eq {b : Nat} (hb : 2 ≤ b) : ∀ (f f' n : Nat), n < 2 ^ f → n < 2 ^ f' → 1 ≤ f → 1 ≤ f' → digsF b f n = digsF b f' n
  | 0, _, n, _, _, hf, _ => by omega
  | _, 0, n, _, _, _, hf => by omega
  | f + 1, f' + 1, n, h, h', _, _ => by
    simp only [digsF]
    by_cases e : n < b
    · rw [if_pos e, if_pos e]
    · rw [if_neg e, if_neg e]
      have hp : 1 ≤ n / b := (Nat.le_div_iff_mul_le (by omega)).2 (by omega)
      have g := half_lt hb h
      have g' := half_lt hb h'
      have f1 : 1 ≤ f := by
        cases f with
        | zero => simp at g; omega
        | succ f => omega
      have f2 : 1 ≤ f' := by
        cases f' with
        | zero => simp at g'; omega
        | succ f' => omega
      rw [digsF_eq hb f f' (n / b) g g' f1 f2]
theorem digs_small {b n : Nat} (h : n < b) : digs b n = [signN n] := by simp only [digs, digsF, if_pos h]
theorem digs_step {b n : Nat} (hb : 2 ≤ b) (hn : n < 18446744073709551616) (h : b ≤ n) : digs b n = digs b (n / b) ++ [signN (n % b)] := by
  have h70 : n < 2 ^ 70 := by have : (18446744073709551616 : Nat) ≤ 2 ^ 70 := by decide
                              omega
  have hp : 1 ≤ n / b := (Nat.le_div_iff_mul_le (by omega)).2 (by omega)
  show digsF b 70 n = _
  rw [show digsF b 70 n = if n < b then [signN n] else digsF b 69 (n / b) ++ [signN (n % b)] from rfl, if_neg (by omega)]
  congr 1
  have h2 : n / b ≤ n := Nat.div_le_self _ _
  exact digsF_eq hb 69 70 _ (half_lt hb h70) (by omega) (by omega) (by omega)
theorem digsF_len {b : Nat} : ∀ f n, (digsF b f n).length ≤ f
  | 0, _ => by simp [digsF]
  | f + 1, n => by
    have := digsF_len (b := b) f (n / b)
    simp only [digsF]; split <;> simp <;> omega
theorem digs_len (b n : Nat) : (digs b n).length ≤ 70 := digsF_len 70 n
theorem digsF_pos {b : Nat} (f n : Nat) : 1 ≤ (digsF b (f + 1) n).length := by
  simp only [digsF]; split <;> simp
theorem digs_pos (b n : Nat) : 1 ≤ (digs b n).length := digsF_pos 69 n
def textI (n : Int) : List UInt8 := if n < 0 then 45 :: digs 10 n.natAbs else digs 10 n.natAbs
theorem textI_len (n : Int) : (textI n).length ≤ 71 := by
  have := digs_len 10 n.natAbs
  unfold textI; split <;> simp <;> omega
theorem drop_set_at {α : Type} {l : List α} {i : Nat} (h : i < l.length) (v : α) : (l.set i v).drop i = v :: l.drop (i + 1) := by
  rw [List.set_eq_take_append_cons_drop, if_pos h, List.drop_left' (by simp; omega)]
theorem max_abs (d : Int) : max d (0 - d) = (d.natAbs : Int) := by omega
theorem sign_slice : ∀ k, k < 16 → List.drop k (List.take (k + 1) sign16) = [signN k] := by decide
theorem sign_slice' (k : Nat) (h : k < 16) : List.drop k (48 :: List.take k [49, 50, 51, 52, 53, 54, 55, 56, 57, 97, 98, 99, 100, 101, 102]) = [signN k] := by
  have := sign_slice k h
  simpa only [sign16, List.take_succ_cons] using this
theorem tmod_nat {b : Int} (hb : b = 10 ∨ b = 16) (m : Nat) : (m : Int).tmod b = ((m % b.toNat : Nat) : Int) ∧ (m : Int).tdiv b = ((m / b.toNat : Nat) : Int) := by
  rw [Int.tmod_eq_emod_of_nonneg (by omega), Int.tdiv_eq_ediv_of_nonneg (by omega)]
  rcases hb with rfl | rfl
  · exact ⟨by simp, by simp⟩
  · exact ⟨by simp, by simp⟩
end Go.Mdl
end
section
set_option linter.unusedVariables false
set_option linter.unusedSimpArgs false
namespace Go.Proofs.Tryd.Slc
open Go Go.Abs Go.Proofs Go.Mdl
def tbP_S (sz : Nat) (z : AV) (v : List AV) (p : List UInt8 → Bool) (q : List UInt8 → Prop) : List Blk → List AV → Option (List Blk × AV × Prop)
  | [.cells sz' false z' v'], [a, .ptr 0 0 0 1] => some ([.cells sz' false z' v'], .bool (p (toStr a)), sz' = sz ∧ z' = z ∧ v' = v ∧ a = AV.str (toStr a) ∧ q (toStr a))
  | _, _ => none
theorem tbP_S_ok {f : FuncId} {sz : Nat} {z : AV} {v : List AV} {p : List UInt8 → Bool} {q : List UInt8 → Prop} (hs : ∀ x, q x → SpecE Tryd.prog f [.cells sz false z v] [AV.str x, .ptr 0 0 0 1] [.cells sz false z v] (.bool (p x))) :
    ∀ E args E' res q', tbP_S sz z v p q E args = some (E', res, q') → q' → SpecE Tryd.prog f E args E' res := by
  intro E args E' res q' h hq
  unfold tbP_S at h
  split at h
  · rename_i sz' z' v' a
    simp only [Option.some.injEq, Prod.mk.injEq] at h
    obtain ⟨rfl, rfl, rfl⟩ := h
    obtain ⟨rfl, rfl, rfl, h1, h2⟩ := hq
    have := hs _ h2
    rw [← h1] at this; exact this
  · cases h
theorem idx_S {f : FuncId} (hy : ¬ f = 1000000) {sz : Nat} {z : AV} {v : List AV} (hv : BoxOK v) (hz : ∀ σ, ren σ z = z) {p : List UInt8 → Bool} {q : List UInt8 → Prop} (hs : ∀ x, q x → SpecE Tryd.prog f [.cells sz false z v] [AV.str x, .ptr 0 0 0 1] [.cells sz false z v] (.bool (p x)))
    (l : List (List UInt8)) (hq : ∀ x ∈ l, q x) (hl : l.length ≤ maxLen) :
    SpecE Tryd.prog 91 [.cells sz false z v] [.list 1 (l.map AV.str), .clo f 0 [.ptr 0 0 0 1]] [.cells sz false z v] (.int .i64 (idxP p l)) := by
  refine specFE (C := addT nilT f (tbP_S sz z v p q)) (wr := false) (D := fun _ => []) (U := fun _ => none) (E := [.cells sz false z v]) (E' := [.cells sz false z v]) (res := [.int .i64 (idxP p l)]) [] Tryd.Ty.mixed (addT_ok nilT_ok (by simp) (tbP_S_ok hs)) Tryd.func91 (nE := 1) (nA := 2) (by decide +kernel) rfl rfl ?_
  simp only [Tryd.f91, bodyOf, rlOf]
  rw [W_V]
  have hm : l.length ≤ 9223372036854775807 := hl
  obtain ⟨v1, v2, v3, v4⟩ := hv
  have v5 : ∀ L, contOK L v = True := fun L => contOK_pure v4
  simp only [tbP_S, hy, hz, v1, v2, v3, v5, go_sem, go_sem, seval, true_and]
  refine VL_inv (X := Nat) (fun k => ⟨[(0, .list 1 (l.map AV.str)), (1, .clo f 0 [.ptr 0 0 0 1]), (7, .int .i64 l.length), (8, .int .i64 k)], [(0, .cells sz false z v)]⟩) (fun k => k ≤ l.length ∧ (l.take k).any p = false) (fun k => l.length - k) 0 ?_ ?_ ?_
  · simp only [tbP_S, hy, hz, v1, v2, v3, v5, go_sem, go_sem, seval]
    try rfl
  · exact ⟨Nat.zero_le _, by simp⟩
  rintro k ⟨hk, hn⟩
  simp only [tbP_S, hy, hz, v1, v2, v3, v5, go_sem, go_sem, seval, true_and, toStr]
  refine ⟨fun hlt => ⟨by omega, hq _ (List.mem_of_getElem? (getD_of_lt (s := l) (i := k) (d := []) (by omega))), fun hp => (idxP_hit [] (by omega) hn hp).symm, fun hp => ⟨by omega, k + 1, by omega, ⟨by omega, by rw [any_take_succ [] (by omega) hn]; exact hp⟩, by omega⟩⟩, fun hge => ?_⟩
  have : k = l.length := by omega
  subst this
  rw [List.take_length] at hn
  exact (idxP_none hn).symm
def tbI_S (sz : Nat) (z : AV) (v : List AV) (f : FuncId) (p : List UInt8 → Bool) (l : List (List UInt8)) : List Blk → List AV → Option (List Blk × AV × Prop)
  | [.cells sz' false z' v'], [.list n l', .clo f' 0 [.ptr 0 0 0 1]] => some ([.cells sz' false z' v'], .int .i64 (idxP p l), sz' = sz ∧ z' = z ∧ v' = v ∧ n = 1 ∧ l' = l.map AV.str ∧ f' = f)
  | _, _ => none
theorem has_S {f : FuncId} (hy : ¬ f = 1000000) {sz : Nat} {z : AV} {v : List AV} (hv : BoxOK v) (hz : ∀ σ, ren σ z = z) {p : List UInt8 → Bool} {q : List UInt8 → Prop} (hs : ∀ x, q x → SpecE Tryd.prog f [.cells sz false z v] [AV.str x, .ptr 0 0 0 1] [.cells sz false z v] (.bool (p x)))
    (l : List (List UInt8)) (hq : ∀ x ∈ l, q x) (hl : l.length ≤ maxLen) :
    SpecE Tryd.prog 68 [.cells sz false z v] [.list 1 (l.map AV.str), .clo f 0 [.ptr 0 0 0 1]] [.cells sz false z v] (.bool (l.any p)) := by
  have ht : ∀ E args E' res q', tbI_S sz z v f p l E args = some (E', res, q') → q' → SpecE Tryd.prog 91 E args E' res := by
    intro E args E' res q' h hq'
    unfold tbI_S at h
    split at h
    · simp only [Option.some.injEq, Prod.mk.injEq] at h
      obtain ⟨rfl, rfl, rfl⟩ := h
      obtain ⟨rfl, rfl, rfl, rfl, rfl, rfl⟩ := hq'
      exact idx_S hy hv hz hs l hq hl
    · cases h
  refine specFE (C := addT nilT 91 (tbI_S sz z v f p l)) (wr := false) (D := fun _ => []) (U := fun _ => none) (E := [.cells sz false z v]) (E' := [.cells sz false z v]) (res := [.bool (l.any p)]) [] Tryd.Ty.mixed (addT_ok nilT_ok (by decide +kernel) ht) Tryd.func68 (nE := 1) (nA := 2) (by decide +kernel) rfl rfl ?_
  simp only [Tryd.f68, bodyOf, rlOf]
  rw [W_V]
  obtain ⟨v1, v2, v3, v4⟩ := hv
  have v5 : ∀ L, contOK L v = True := fun L => contOK_pure v4
  simp only [tbI_S, hz, v1, v2, v3, v5, go_sem, go_sem, seval, true_and]
  rw [Bool.eq_iff_iff, decide_eq_true_eq, idxP_ge]
def tbP_F (sz : Nat) (z : AV) (v : List AV) (p : List UInt8 × List UInt8 → Bool) (q : List UInt8 × List UInt8 → Prop) : List Blk → List AV → Option (List Blk × AV × Prop)
  | [.cells sz' false z' v'], [a, .ptr 0 0 0 1] => some ([.cells sz' false z' v'], .bool (p (dec_fld a)), sz' = sz ∧ z' = z ∧ v' = v ∧ a = enc_fld (dec_fld a) ∧ q (dec_fld a))
  | _, _ => none
theorem tbP_F_ok {f : FuncId} {sz : Nat} {z : AV} {v : List AV} {p : List UInt8 × List UInt8 → Bool} {q : List UInt8 × List UInt8 → Prop} (hs : ∀ x, q x → SpecE Tryd.prog f [.cells sz false z v] [enc_fld x, .ptr 0 0 0 1] [.cells sz false z v] (.bool (p x))) :
    ∀ E args E' res q', tbP_F sz z v p q E args = some (E', res, q') → q' → SpecE Tryd.prog f E args E' res := by
  intro E args E' res q' h hq
  unfold tbP_F at h
  split at h
  · rename_i sz' z' v' a
    simp only [Option.some.injEq, Prod.mk.injEq] at h
    obtain ⟨rfl, rfl, rfl⟩ := h
    obtain ⟨rfl, rfl, rfl, h1, h2⟩ := hq
    have := hs _ h2
    rw [← h1] at this; exact this
  · cases h
theorem idxO_F {f : FuncId} (hy : ¬ f = 1000000) {sz : Nat} {z : AV} {v : List AV} (hv : BoxOK v) (hz : ∀ σ, ren σ z = z) {p : List UInt8 × List UInt8 → Bool} {q : List UInt8 × List UInt8 → Prop} (hs : ∀ x, q x → SpecE Tryd.prog f [.cells sz false z v] [enc_fld x, .ptr 0 0 0 1] [.cells sz false z v] (.bool (p x)))
    (l : List (List UInt8 × List UInt8)) (hq : ∀ x ∈ l, q x) (hl : l.length ≤ maxLen) (m1 m2 : Nat) (hm1 : m1 = l.length) (hm2 : m2 = l.length) :
    SpecE Tryd.prog 73 [.cells 2 false (AV.agg [AV.str [], AV.str []]) (l.map enc_fld), .cells sz false z v] [.ref 0 0 m1 m2, .clo f 0 [.ptr 1 0 0 1]] [.cells 2 false (AV.agg [AV.str [], AV.str []]) (l.map enc_fld), .cells sz false z v] (.int .i64 (idxP p l)) := by
  subst hm1
  subst hm2
  refine specFE (C := addT nilT f (tbP_F sz z v p q)) (wr := false) (D := fun _ => []) (U := fun _ => none) (E := [.cells 2 false (AV.agg [AV.str [], AV.str []]) (l.map enc_fld), .cells sz false z v]) (E' := [.cells 2 false (AV.agg [AV.str [], AV.str []]) (l.map enc_fld), .cells sz false z v]) (res := [.int .i64 (idxP p l)]) [] Tryd.Ty.mixed (addT_ok nilT_ok (by simp) (tbP_F_ok hs)) Tryd.func73 (nE := 2) (nA := 2) (by decide +kernel) rfl rfl ?_
  simp only [Tryd.f73, bodyOf, rlOf]
  rw [W_V]
  have hm : l.length ≤ 9223372036854775807 := hl
  obtain ⟨v1, v2, v3, v4⟩ := hv
  have v5 : ∀ L, contOK L v = True := fun L => contOK_pure v4
  simp only [tbP_F, hy, hz, v1, v2, v3, v5, go_sem, go_sem, seval, true_and]
  refine VL_inv (X := Nat) (fun k => ⟨[(0, .ref 0 0 l.length l.length), (1, .clo f 0 [.ptr 1 0 0 1]), (7, .int .i64 l.length), (8, .int .i64 k)], [(0, .cells 2 false (AV.agg [AV.str [], AV.str []]) (l.map enc_fld)), (1, .cells sz false z v)]⟩) (fun k => k ≤ l.length ∧ (l.take k).any p = false) (fun k => l.length - k) 0 ?_ ?_ ?_
  · simp only [tbP_F, hy, hz, v1, v2, v3, v5, go_sem, go_sem, seval]
    try rfl
  · exact ⟨Nat.zero_le _, by simp⟩
  rintro k ⟨hk, hn⟩
  simp only [tbP_F, hy, hz, v1, v2, v3, v5, go_sem, go_sem, seval, true_and, enc_fld, dec_fld]
  refine ⟨fun hlt => ⟨by omega, by omega, ?_, fun hp => ?_, fun hp => ⟨by omega, k + 1, by omega, ⟨by omega, ?_⟩, by omega⟩⟩, fun hge => ?_⟩
  · rw [Nat.zero_add]; exact hq _ (List.mem_of_getElem? (getD_of_lt (s := l) (i := k) (d := ([], [])) (by omega)))
  · rw [Nat.zero_add] at hp; exact (idxP_hit ([], []) (by omega) hn hp).symm
  · rw [Nat.zero_add] at hp; rw [any_take_succ ([], []) (by omega) hn]; exact hp
  · have : k = l.length := by omega
    subst this
    rw [List.take_length] at hn
    exact (idxP_none hn).symm
def tbJ_F (sz : Nat) (z : AV) (v : List AV) (f : FuncId) (p : List UInt8 × List UInt8 → Bool) (l : List (List UInt8 × List UInt8)) : List Blk → List AV → Option (List Blk × AV × Prop)
  | [.cells n false zl l', .cells sz' false z' v'], [.ref 0 0 m1 m2, .clo f' 0 [.ptr 1 0 0 1]] => some ([.cells n false zl l', .cells sz' false z' v'], .int .i64 (idxP p l), n = 2 ∧ zl = (AV.agg [AV.str [], AV.str []]) ∧ l' = l.map enc_fld ∧ sz' = sz ∧ z' = z ∧ v' = v ∧ m1 = l.length ∧ m2 = l.length ∧ f' = f)
  | _, _ => none
theorem del_F {f : FuncId} (hy : ¬ f = 1000000) {sz : Nat} {z : AV} {v : List AV} (hv : BoxOK v) (hz : ∀ σ, ren σ z = z) {p : List UInt8 × List UInt8 → Bool} {q : List UInt8 × List UInt8 → Prop} (hs : ∀ x, q x → SpecE Tryd.prog f [.cells sz false z v] [enc_fld x, .ptr 0 0 0 1] [.cells sz false z v] (.bool (p x)))
    (l : List (List UInt8 × List UInt8)) (hq : ∀ x ∈ l, q x) (hl : l.length ≤ 1000000) :
    SpecE Tryd.prog 51 [.cells 2 false (AV.agg [AV.str [], AV.str []]) (l.map enc_fld), .cells sz false z v] [.ref 0 0 l.length l.length, .clo f 0 [.ptr 1 0 0 1]] [.cells 2 false (AV.agg [AV.str [], AV.str []]) ((delP ([], []) p l).map enc_fld), .cells sz false z v] (.ref 0 0 (l.filter fun x => !p x).length l.length) := by
  have hm : (1000000 : Nat) ≤ maxLen := by decide
  have ht : ∀ E args E' res q', tbJ_F sz z v f p l E args = some (E', res, q') → q' → SpecE Tryd.prog 73 E args E' res := by
    intro E args E' res q' h hq'
    unfold tbJ_F at h
    split at h
    · simp only [Option.some.injEq, Prod.mk.injEq] at h
      obtain ⟨rfl, rfl, rfl⟩ := h
      obtain ⟨rfl, rfl, rfl, rfl, rfl, rfl, h1, h2, rfl⟩ := hq'
      exact idxO_F hy hv hz hs l hq (by omega) _ _ h1 h2
    · cases h
  refine specFE (C := addT (addT nilT f (tbP_F sz z v p q)) 73 (tbJ_F sz z v f p l)) (wr := false) (D := fun _ => []) (U := fun _ => none) (E := [.cells 2 false (AV.agg [AV.str [], AV.str []]) (l.map enc_fld), .cells sz false z v]) (E' := [.cells 2 false (AV.agg [AV.str [], AV.str []]) ((delP ([], []) p l).map enc_fld), .cells sz false z v]) (res := [.ref 0 0 (l.filter fun x => !p x).length l.length]) [] Tryd.Ty.mixed (addT_ok (addT_ok nilT_ok (by simp) (tbP_F_ok hs)) (by decide +kernel) ht) Tryd.func51 (nE := 2) (nA := 2) (by decide +kernel) rfl rfl ?_
  simp only [Tryd.f51, bodyOf, rlOf]
  rw [W_V]
  obtain ⟨v1, v2, v3, v4⟩ := hv
  have v5 : ∀ L, contOK L v = True := fun L => contOK_pure v4
  simp only [tbJ_F, tbP_F, hy, hz, v1, v2, v3, v5, go_sem, go_sem, seval, true_and, enc_fld, dec_fld]
  refine ⟨fun hno => ?_, fun hne => ?_⟩
  · have hf := filter_none (idxP_none' hno)
    have hd : delP ([], []) p l = l := by simp [delP, hf]
    rw [hd, hf]; exact ⟨rfl, rfl, rfl⟩
  obtain ⟨x, hx, hxl, hxn, hxp⟩ := idxP_some ([], []) hne
  rw [hx]
  refine ⟨by omega, ?_⟩
  refine VL_inv (X := Nat × Nat × List (List UInt8 × List UInt8)) (fun y => ⟨[(0, .ref 0 0 l.length l.length), (1, .clo f 0 [.ptr 1 0 0 1]), (5, .int .i64 y.1), (6, .int .i64 y.2.1)], [(0, .cells 2 false (AV.agg [AV.str [], AV.str []]) (y.2.2.map enc_fld)), (1, .cells sz false z v)]⟩)
    (fun y => y.2.2.length = l.length ∧ y.1 < y.2.1 ∧ y.2.1 ≤ l.length ∧ y.2.2.take y.1 = (l.take y.2.1).filter (fun x => !p x) ∧ y.2.2.drop y.2.1 = l.drop y.2.1) (fun y => l.length - y.2.1) (x, x + 1, l) ?_ ?_ ?_
  · simp only [tbJ_F, tbP_F, hy, hz, v1, v2, v3, v5, go_sem, go_sem, seval]
    try rfl
    try omega
  · refine ⟨rfl, Nat.lt_succ_self x, hxl, ?_, rfl⟩
    simp only
    rw [take_succ_getD ([], []) hxl, List.filter_append, filter_none hxn, List.filter_cons_of_neg (by rw [hxp]; simp), List.filter_nil, List.append_nil]
  rintro ⟨i, j, c⟩ ⟨i1, i2, i3, i4, i5⟩
  simp only at i1 i2 i3 i4 i5
  simp only [tbJ_F, tbP_F, hy, hz, v1, v2, v3, v5, i1, go_sem, go_sem, seval, true_and, enc_fld, dec_fld]
  have hw := drop_eq_getD ([], []) i5
  have hs' := drop_eq_succ i5
  have hmem : j < l.length → l.getD j ([], []) ∈ l := fun h => List.mem_of_getElem? (getD_of_lt (s := l) (d := ([], [])) h)
  have htk : j < l.length → (l.take (j + 1)).filter (fun x => !p x) = c.take i ++ if p (l.getD j ([], [])) = true then [] else [l.getD j ([], [])] := fun h => by
    rw [take_succ_getD ([], []) h, List.filter_append, i4]
    by_cases hh : p (l.getD j ([], [])) = true
    · rw [if_pos hh, List.filter_cons_of_neg (by rw [hh]; simp), List.filter_nil]
    · rw [if_neg hh, List.filter_cons_of_pos (by simpa using hh), List.filter_nil]
  have hset : ∀ w : List UInt8 × List UInt8, (c.map enc_fld).set (0 + i) (enc_fld w) = (c.set i w).map enc_fld := fun w => by rw [Nat.zero_add, List.map_set]
  have hj0 : 0 + j = j := Nat.zero_add j
  rw [hj0, hw]
  refine ⟨fun hlt => ⟨by omega, by omega, hq _ (hmem (by omega)), fun hp => ⟨by omega, by omega, by omega, by omega, (i + 1, j + 1, c.set i (l.getD j ([], []))), ⟨⟨by simp only; omega, by simp only; omega⟩, hset _, congrArg (fun z => some (Blk.cells 2 false (AV.agg [AV.str [], AV.str []]) z)) (hset _).symm⟩,
      ⟨by simp only [List.length_set]; exact i1, by simp only; omega, by simp only; omega, ?_, ?_⟩, by simp only; omega⟩, fun hp => ⟨by omega, (i, j + 1, c), ⟨⟨rfl, by simp only; omega⟩, rfl, rfl⟩, ⟨i1, by simp only; omega, by simp only; omega, ?_, hs'⟩, by simp only; omega⟩⟩, fun hge => ?_⟩
  · simp only
    rw [set_take (by omega), htk (by omega), if_neg (fun h => by have h2 := hp; rw [show p (l.getD j ([], [])) = true from h] at h2; cases h2)]
  · simp only
    rw [set_drop (by omega), hs']
  · simp only
    rw [htk (by omega), if_pos hp, List.append_nil]
  · have e : j = l.length := by omega
    subst e
    rw [List.take_length] at i4
    have hli : (l.filter fun x => !p x).length = i := by rw [← i4, List.length_take]; omega
    have hrep : ∀ k : Nat, List.replicate k (AV.agg [AV.str [], AV.str []]) = (List.replicate k (([], []) : List UInt8 × List UInt8)).map enc_fld := fun k => (by rw [List.map_replicate] <;> try rfl)
    have hdel : (c.take (0 + i)).map enc_fld ++ (List.replicate (l.length - i) (AV.agg [AV.str [], AV.str []]) ++ (c.drop (0 + i + (l.length - i))).map enc_fld) = (delP ([], []) p l).map enc_fld := by
      rw [Nat.zero_add, i4, List.drop_eq_nil_of_le (by omega), delP, hli, List.map_append, ← hrep, List.map_nil, List.append_nil]
    rw [hdel]
    refine ⟨by omega, ⟨by rw [List.length_map, delP_len], by omega, by omega⟩, hli.symm, rfl, rfl⟩
end Go.Proofs.Tryd.Slc
end
section
set_option linter.unusedVariables false
set_option linter.unusedSimpArgs false
namespace Go.Mdl
open Go Go.Abs
abbrev Fld := List UInt8 × List UInt8
def shortF (f : Fld) : Bool := decide (f.1.length ≤ 100) && decide (f.2.length ≤ 300)
def fewF (l : List Fld) : Bool := decide (l.length ≤ 40) && l.all shortF
theorem fewF_len {l : List Fld} (h : fewF l = true) : l.length ≤ 40 ∧ ∀ f ∈ l, f.1.length ≤ 100 ∧ f.2.length ≤ 300 := by
  simp only [fewF, Bool.and_eq_true, decide_eq_true_eq, List.all_eq_true] at h
  refine ⟨h.1, fun f hf => ?_⟩
  have := h.2 f hf
  simpa only [shortF, Bool.and_eq_true, decide_eq_true_eq] using this
end Go.Mdl
namespace Go.Proofs.Tryd.HdrR
open Go Go.Abs Go.Proofs Go.Mdl
def T_specSameF : Tbl := fun g E args => nilT g E args
theorem T_specSameF_ok : TblOK Tryd.prog T_specSameF := nilT_ok
set_option maxRecDepth 100000 in
set_option maxHeartbeats 4000000 in
theorem specSameF (a b : List Fld) (h : a.length ≤ 2147483647) : SpecE Tryd.prog 10 [] [enc_flds a, enc_flds b] [] (.bool (decide (a = b))) := by
  refine specF0 (C := T_specSameF) (wr := false) (D := fun _ => []) (U := fun _ => none) (res := [.bool (decide (a = b))]) Tryd.Ty.mixed T_specSameF_ok Tryd.func10 (nA := 2) (by decide +kernel) rfl (fun _ => rfl) ?_
  simp only [Tryd.f10, bodyOf, rlOf]
  rw [W_V]
  simp (config := {maxSteps := 2000000}) only [T_specSameF, go_sem, seval]
  (try simp (config := {maxSteps := 2000000}) only [gimp, impB, isT, go_sem, seval])
  refine ⟨fun hne => ?_, fun heq => ?_⟩
  · symm; rw [decide_eq_false_iff_not]; rintro rfl; exact hne rfl
  have hl : a.length = b.length := by omega
  refine VL_inv (X := Nat) (fun x => ⟨[(0, enc_flds a), (1, enc_flds b), (5, .int .i64 x)], []⟩) (fun x => x ≤ a.length ∧ a.take x = b.take x) (fun x => a.length - x) 0 ?_ ?_ ?_
  · simp only [go_sem, go_sem, seval]
    try rfl
  · exact ⟨Nat.zero_le _, by simp⟩
  rintro x ⟨hx, hn⟩
  simp (config := {maxSteps := 2000000}) only [T_specSameF, go_sem, seval]
  (try simp (config := {maxSteps := 2000000}) only [gimp, impB, isT, go_sem, seval])
  refine ⟨fun hlt => ?_, fun hge => ?_⟩
  · obtain ⟨h1, h2⟩ := same_step (a := a) (b := b) (x := x) ([], []) hl (by omega) hn
    refine ⟨by omega, by omega, fun he => ?_, fun e1 e2 => ⟨by omega, x + 1, by omega, ⟨by omega, h1 (Prod.ext e1 e2)⟩, by omega⟩⟩
    have : a ≠ b := h2 (fun e => by rw [e] at he; simp at he)
    simp [this]
  · have : x = a.length := by omega
    subst this
    rw [List.take_length, hl, List.take_length] at hn
    simp [hn]
def tb_specSameF : List Blk → List AV → Option (List Blk × AV × Prop)
  | [], [a0, a1] => some ([], .bool (decide ((dec_flds a0) = (dec_flds a1))), ((dec_flds a0).length ≤ 2147483647) ∧ argOK a0 (enc_flds (dec_flds a0)) ∧ argOK a1 (enc_flds (dec_flds a1)))
  | _, _ => none
theorem tb_specSameF_ok : ∀ E args E' res p, tb_specSameF E args = some (E', res, p) → p → SpecE Tryd.prog 10 E args E' res := by
  intro E args E' res p h hp
  unfold tb_specSameF at h
  split at h
  · simp only [Option.some.injEq, Prod.mk.injEq] at h
    obtain ⟨rfl, rfl, rfl⟩ := h
    exact SpecE.args (specSameF _ _ hp.1) (.cons hp.2.1 (.cons hp.2.2 .nil))
  · cases h
def T_specFew : Tbl := fun g E args => nilT g E args
theorem T_specFew_ok : TblOK Tryd.prog T_specFew := nilT_ok
set_option maxRecDepth 100000 in
set_option maxHeartbeats 4000000 in
theorem specFew (l : List Fld) (h : l.length ≤ maxLen) : SpecE Tryd.prog 6 [] [enc_flds l] [] (.bool (fewF l)) := by
  refine specF0 (C := T_specFew) (wr := false) (D := fun _ => []) (U := fun _ => none) (res := [.bool (fewF l)]) Tryd.Ty.mixed T_specFew_ok Tryd.func6 (nA := 1) (by decide +kernel) rfl (fun _ => rfl) ?_
  simp only [Tryd.f6, bodyOf, rlOf]
  rw [W_V]
  simp (config := {maxSteps := 2000000}) only [T_specFew, go_sem, seval]
  (try simp (config := {maxSteps := 2000000}) only [gimp, impB, isT, go_sem, seval])
  refine ⟨fun h => by simp [fewF]; omega, fun h40 => ?_⟩
  refine VL_inv (X := Nat) (fun k => ⟨[(8, enc_flds l), (9, .int .i64 l.length), (10, .int .i64 k)], []⟩) (fun k => k ≤ l.length ∧ (l.take k).all shortF = true) (fun k => l.length - k) 0 ?_ ?_ ?_
  · simp only [go_sem, go_sem, seval]
    try rfl
  · exact ⟨Nat.zero_le _, by simp⟩
  rintro k ⟨hk, hn⟩
  simp (config := {maxSteps := 2000000}) only [T_specFew, go_sem, seval]
  (try simp (config := {maxSteps := 2000000}) only [gimp, impB, isT, go_sem, seval])
  have hmem : k < l.length → l.getD k ([], []) ∈ l := fun h => List.mem_of_getElem? (getD_of_lt (s := l) (d := ([], [])) h)
  (repeat' (first | refine And.intro ?_ ?_ | intro _))
  all_goals (try first | omega | assumption | contradiction)
  · rename_i h1 h2
    have hs : shortF (l.getD k ([], [])) = false := by
      simp only [shortF, Bool.and_eq_false_iff, decide_eq_false_iff_not]; omega
    have : l.all shortF = false := List.all_eq_false.2 ⟨_, hmem (by omega), by rw [hs]; simp⟩
    simp [fewF, this]
  · rename_i h1 h2 h3
    refine ⟨k + 1, by omega, ⟨by omega, ?_⟩, by omega⟩
    rw [take_succ_getD ([], []) (by omega), List.all_append, hn]
    simp only [List.all_cons, List.all_nil, Bool.and_true, Bool.true_and, shortF, Bool.and_eq_true, decide_eq_true_eq]
    omega
  · have : k = l.length := by omega
    subst this
    rw [List.take_length] at hn
    simp [fewF, hn]; omega
def tb_specFew : List Blk → List AV → Option (List Blk × AV × Prop)
  | [], [a0] => some ([], .bool (fewF (dec_flds a0)), ((dec_flds a0).length ≤ maxLen) ∧ argOK a0 (enc_flds (dec_flds a0)))
  | _, _ => none
theorem tb_specFew_ok : ∀ E args E' res p, tb_specFew E args = some (E', res, p) → p → SpecE Tryd.prog 6 E args E' res := by
  intro E args E' res p h hp
  unfold tb_specFew at h
  split at h
  · simp only [Option.some.injEq, Prod.mk.injEq] at h
    obtain ⟨rfl, rfl, rfl⟩ := h
    exact SpecE.args (specFew _ hp.1) (.cons hp.2 .nil)
  · cases h
end Go.Proofs.Tryd.HdrR
end
section
set_option linter.unusedVariables false
set_option linter.unusedSimpArgs false
namespace Go.Proofs.Tryd.Dig
open Go Go.Abs Go.Proofs Go.Mdl
def T_specDigit : Tbl := fun g E args => nilT g E args
theorem T_specDigit_ok : TblOK Tryd.prog T_specDigit := nilT_ok
set_option maxRecDepth 100000 in
set_option maxHeartbeats 4000000 in
theorem specDigit (r : Int) : SpecE Tryd.prog 71 [] [.int .i32 r] [] (.int .i64 (digI r)) := by
  refine specF0 (C := T_specDigit) (wr := false) (D := fun _ => []) (U := fun _ => none) (res := [.int .i64 (digI r)]) Tryd.Ty.mixed T_specDigit_ok Tryd.func71 (nA := 1) (by decide +kernel) rfl (fun _ => rfl) ?_
  simp only [Tryd.f71, bodyOf, rlOf]
  rw [W_V]
  simp (config := {maxSteps := 2000000}) only [T_specDigit, go_sem, seval]
  (try simp (config := {maxSteps := 2000000}) only [gimp, impB, isT, go_sem, seval])
  simp only [digI]
  (try simp only [Bool.and_eq_false_iff, Bool.or_eq_false_iff, Bool.and_eq_true, Bool.or_eq_true, decide_eq_false_iff_not, decide_eq_true_eq] at *)
  (repeat' (first | apply And.intro | intro _))
  all_goals (first | omega | ((repeat' split) <;> (first | omega | rfl | skip)))
def tb_specDigit : List Blk → List AV → Option (List Blk × AV × Prop)
  | [], [.int .i32 r] => some ([], .int .i64 (digI r), True)
  | _, _ => none
theorem tb_specDigit_ok : ∀ E args E' res p, tb_specDigit E args = some (E', res, p) → p → SpecE Tryd.prog 71 E args E' res := by
  intro E args E' res p h hp
  unfold tb_specDigit at h
  split at h
  · simp only [Option.some.injEq, Prod.mk.injEq] at h
    obtain ⟨rfl, rfl, rfl⟩ := h
    exact (specDigit _)
  · cases h
def T_specValueR : Tbl := fun g E args => nilT g E args
theorem T_specValueR_ok : TblOK Tryd.prog T_specValueR := nilT_ok
set_option maxRecDepth 100000 in
set_option maxHeartbeats 4000000 in
theorem specValueR (c : UInt8) : SpecE Tryd.prog 33 [] [enc_u8 c] [] (.int .i64 (refDig c)) := by
  refine specF0 (C := T_specValueR) (wr := false) (D := fun _ => []) (U := fun _ => none) (res := [.int .i64 (refDig c)]) Tryd.Ty.mixed T_specValueR_ok Tryd.func33 (nA := 1) (by decide +kernel) rfl (fun _ => rfl) ?_
  simp only [Tryd.f33, bodyOf, rlOf]
  rw [W_V]
  simp (config := {maxSteps := 2000000}) only [T_specValueR, go_sem, seval]
  (try simp (config := {maxSteps := 2000000}) only [gimp, impB, isT, go_sem, seval])
  have hc := c.toNat_lt
  simp only [refDig, digB, digI]
  (try simp only [Bool.and_eq_false_iff, Bool.or_eq_false_iff, Bool.and_eq_true, Bool.or_eq_true, decide_eq_false_iff_not, decide_eq_true_eq] at *)
  (repeat' (first | apply And.intro | intro _))
  all_goals (first | omega | ((repeat' split) <;> (first | omega | rfl | skip)))
def tb_specValueR : List Blk → List AV → Option (List Blk × AV × Prop)
  | [], [a0] => some ([], .int .i64 (refDig (dec_u8 a0)), argOK a0 (enc_u8 (dec_u8 a0)))
  | _, _ => none
theorem tb_specValueR_ok : ∀ E args E' res p, tb_specValueR E args = some (E', res, p) → p → SpecE Tryd.prog 33 E args E' res := by
  intro E args E' res p h hp
  unfold tb_specValueR at h
  split at h
  · simp only [Option.some.injEq, Prod.mk.injEq] at h
    obtain ⟨rfl, rfl, rfl⟩ := h
    exact SpecE.args (specValueR _) (.cons hp .nil)
  · cases h
def T_specNumber : Tbl := fun g E args => (addT nilT 71 Go.Proofs.Tryd.Dig.tb_specDigit) g E args
theorem T_specNumber_ok : TblOK Tryd.prog T_specNumber := (addT_ok nilT_ok (by decide +kernel) Go.Proofs.Tryd.Dig.tb_specDigit_ok)
set_option maxRecDepth 100000 in
set_option maxHeartbeats 4000000 in
theorem specNumber (s : List UInt8) (b most : Int) (hb : b = 10 ∨ b = 16) (hm : most ≤ 9223372036854775807) : SpecE Tryd.prog 48 [] [.str s, .int .i64 b, .int .i64 most] [] (.tuple [.int .i64 (numVal b most s), .int .i64 (numErr b most s)]) := by
  refine specF0 (C := T_specNumber) (wr := false) (D := fun _ => []) (U := fun _ => none) (res := [.int .i64 (numVal b most s), .int .i64 (numErr b most s)]) Tryd.Ty.mixed T_specNumber_ok Tryd.func48 (nA := 3) (by decide +kernel) rfl (fun _ => rfl) ?_
  simp only [Tryd.f48, bodyOf, rlOf]
  rw [W_V]
  simp (config := {maxSteps := 2000000}) only [T_specNumber, Go.Proofs.Tryd.Dig.tb_specDigit, go_sem, seval]
  (try simp (config := {maxSteps := 2000000}) only [gimp, impB, isT, go_sem, seval])
  refine ⟨fun h => by simp [numVal, numErr, h], fun h0 => ?_⟩
  refine VL_inv (X := Nat × Int × Bool) (fun x => ⟨[(0, .str s), (1, .int .i64 b), (2, .int .i64 most), (8, .int .i64 x.2.1), (9, .bool x.2.2), (16, .it 272)], [(272, .iter s x.1)]⟩)
    (fun x => x.1 ≤ s.length ∧ (s.take x.1).all (isDig b) = true ∧ (x.2.2 = true → most < numV b (s.take x.1)) ∧ (x.2.2 = false → x.2.1 = numV b (s.take x.1) ∧ (x.2.1 ≤ most ∨ x.1 = 0)))
    (fun x => s.length - x.1) (0, 0, false) ?_ ?_ ?_
  · simp only [go_sem, go_sem, seval]
    try rfl
  · exact ⟨Nat.zero_le _, by simp, by simp, fun _ => ⟨by simp [numV], .inr rfl⟩⟩
  rintro ⟨x, n, over⟩ ⟨hx, hd, ho, hn⟩
  simp only at hx hd ho hn
  simp (config := {maxSteps := 2000000}) only [T_specNumber, Go.Proofs.Tryd.Dig.tb_specDigit, go_sem, seval]
  (try simp (config := {maxSteps := 2000000}) only [gimp, impB, isT, go_sem, seval])
  have r1 := fun hlt : x < s.length => (dig_rune hlt).2.1
  have r2 := fun hlt : x < s.length => (dig_rune hlt).2.2
  refine ⟨fun hlt => ⟨hlt, fun hbad => ?_, fun h1 h2 => ?_⟩, fun hge => ?_⟩
  · rw [r1 hlt] at hbad
    have := num_bad (b := b) (most := most) hlt (by rw [← Bool.not_eq_true, isDig_iff]; omega)
    exact ⟨this.2.symm, this.1.symm⟩
  · rw [r2 hlt h1, if_pos hlt]
    rw [r1 hlt] at h1 h2 ⊢
    have hdig : isDig b (s.getD x 0) = true := (isDig_iff _ _).2 ⟨h1, h2⟩
    have htk := numV_take_succ b hlt
    have hall := (all_step hlt hd).1 hdig
    have hb1 : (1 : Int) ≤ b := by omega
    have hnn := numV_nonneg hb1 _ hd
    have hmono := numV_mono hb1 hd (t := [s.getD x 0]) (by simp only [List.all_cons, List.all_nil, Bool.and_true]; exact hdig)
    rw [← take_succ_getD 0 hlt] at hmono
    generalize digB (s.getD x 0) = d at *
    have ov := fun h => over_step (most := most) (n := n) (d := d) hb h h1
    have hz : x = 0 → n = 0 ∨ over = true := fun e => by
      cases over with
      | true => exact .inr rfl
      | false => left; rw [(hn rfl).1, e]; rfl
    refine ⟨⟨fun _ _ => by omega, fun _ _ => by omega⟩, ⟨fun _ _ => by omega, fun _ h3 => ?_, fun _ h3 => ?_⟩, fun h3 h4 h5 => ?_, fun h3 => ?_⟩
    · have := tdiv_range (b := b) (m := most - d) hb (by omega) (by omega); omega
    · exact (tdiv_range (b := b) (m := most - d) hb (by omega) (by omega)).2
    · obtain ⟨n1, n2⟩ := hn h3
      have h6 : ¬ (most < n * b + d) := by rw [← ov (by omega) h4]; omega
      have h7 : 0 ≤ n * b := Int.mul_nonneg (by omega) (by omega)
      refine ⟨by omega, by omega, (x + 1, n * b + d, false), ⟨⟨rfl, ?_⟩, rfl⟩, ⟨by omega, hall, fun h => by (cases h), fun _ => ⟨by rw [htk, n1], .inl (by simp only; omega)⟩⟩, by omega⟩
      simp only [h3, Bool.false_or, Bool.or_eq_false_iff, decide_eq_false_iff_not]; omega
    · have hov : most < numV b (s.take (x + 1)) := by
        rcases h3 with (h3 | h3) | h3
        · have := ho h3; omega
        · rw [htk]
          have := Int.mul_nonneg hnn (show 0 ≤ b by omega)
          omega
        · by_cases h4 : d ≤ most
          · cases hov : over with
            | true => have := ho hov; omega
            | false =>
              obtain ⟨n1, n2⟩ := hn hov
              rw [ov (by omega) h4] at h3
              rw [htk, ← n1]; exact h3
          · rw [htk]
            have := Int.mul_nonneg hnn (show 0 ≤ b by omega)
            omega
      refine ⟨(x + 1, n, true), ⟨⟨rfl, ?_⟩, rfl⟩, ⟨by omega, hall, fun _ => hov, fun h => by (cases h)⟩, by omega⟩
      simp only [Bool.or_eq_true, decide_eq_true_eq]; exact h3
  · have : x = s.length := by omega
    subst this
    rw [List.take_length] at hd ho hn
    refine ⟨fun h => ?_, fun h => ?_⟩
    · have := num_over h0 hd (ho h); exact ⟨this.2.symm, this.1.symm⟩
    · obtain ⟨n1, n2⟩ := hn h
      have hl : s.length ≠ 0 := fun e => h0 (List.length_eq_zero_iff.1 e)
      have := num_good (most := most) h0 hd (by omega)
      exact ⟨by rw [this.2, n1], this.1.symm⟩
def tb_specNumber : List Blk → List AV → Option (List Blk × AV × Prop)
  | [], [.str s, .int .i64 b, .int .i64 most] => some ([], .tuple [.int .i64 (numVal b most s), .int .i64 (numErr b most s)], (b = 10 ∨ b = 16) ∧ (most ≤ 9223372036854775807))
  | _, _ => none
theorem tb_specNumber_ok : ∀ E args E' res p, tb_specNumber E args = some (E', res, p) → p → SpecE Tryd.prog 48 E args E' res := by
  intro E args E' res p h hp
  unfold tb_specNumber at h
  split at h
  · simp only [Option.some.injEq, Prod.mk.injEq] at h
    obtain ⟨rfl, rfl, rfl⟩ := h
    exact (specNumber _ _ _ hp.1 hp.2)
  · cases h
def T_specDec : Tbl := fun g E args => (addT nilT 48 Go.Proofs.Tryd.Dig.tb_specNumber) g E args
theorem T_specDec_ok : TblOK Tryd.prog T_specDec := (addT_ok nilT_ok (by decide +kernel) Go.Proofs.Tryd.Dig.tb_specNumber_ok)
set_option maxRecDepth 100000 in
set_option maxHeartbeats 4000000 in
theorem specDec (s : List UInt8) (most : Int) (hm : most ≤ 9223372036854775807) : SpecE Tryd.prog 20 [] [.str s, .int .i64 most] [] (.tuple [.int .i64 (numVal 10 most s), .int .i64 (numErr 10 most s)]) := by
  refine specF0 (C := T_specDec) (wr := false) (D := fun _ => []) (U := fun _ => none) (res := [.int .i64 (numVal 10 most s), .int .i64 (numErr 10 most s)]) Tryd.Ty.mixed T_specDec_ok Tryd.func20 (nA := 2) (by decide +kernel) rfl (fun _ => rfl) ?_
  simp only [Tryd.f20, bodyOf, rlOf]
  rw [W_V]
  simp (config := {maxSteps := 2000000}) only [T_specDec, Go.Proofs.Tryd.Dig.tb_specNumber, go_sem, seval]
  (try simp (config := {maxSteps := 2000000}) only [gimp, impB, isT, go_sem, seval])
  exact hm
def tb_specDec : List Blk → List AV → Option (List Blk × AV × Prop)
  | [], [.str s, .int .i64 most] => some ([], .tuple [.int .i64 (numVal 10 most s), .int .i64 (numErr 10 most s)], (most ≤ 9223372036854775807))
  | _, _ => none
theorem tb_specDec_ok : ∀ E args E' res p, tb_specDec E args = some (E', res, p) → p → SpecE Tryd.prog 20 E args E' res := by
  intro E args E' res p h hp
  unfold tb_specDec at h
  split at h
  · simp only [Option.some.injEq, Prod.mk.injEq] at h
    obtain ⟨rfl, rfl, rfl⟩ := h
    exact (specDec _ _ hp)
  · cases h
def T_specNumberR : Tbl := fun g E args => (addT nilT 33 Go.Proofs.Tryd.Dig.tb_specValueR) g E args
theorem T_specNumberR_ok : TblOK Tryd.prog T_specNumberR := (addT_ok nilT_ok (by decide +kernel) Go.Proofs.Tryd.Dig.tb_specValueR_ok)
set_option maxRecDepth 100000 in
set_option maxHeartbeats 4000000 in
theorem specNumberR (s : List UInt8) (b most : Int) (hb : b = 10 ∨ b = 16) (hm : most ≤ 9223372036854775807) (hs : s.length ≤ 1000000) : SpecE Tryd.prog 23 [] [.str s, .int .i64 b, .int .i64 most] [] (.tuple [.int .i64 (numVal b most s), .int .i64 (numErr b most s)]) := by
  refine specF0 (C := T_specNumberR) (wr := false) (D := fun _ => []) (U := fun _ => none) (res := [.int .i64 (numVal b most s), .int .i64 (numErr b most s)]) Tryd.Ty.mixed T_specNumberR_ok Tryd.func23 (nA := 3) (by decide +kernel) rfl (fun _ => rfl) ?_
  simp only [Tryd.f23, bodyOf, rlOf]
  rw [W_V]
  simp (config := {maxSteps := 2000000}) only [T_specNumberR, Go.Proofs.Tryd.Dig.tb_specValueR, go_sem, seval]
  (try simp (config := {maxSteps := 2000000}) only [gimp, impB, isT, go_sem, seval])
  refine ⟨fun h => ?_, fun h0 => ?_⟩
  · have : s = [] := List.length_eq_zero_iff.1 (by omega)
    simp [numVal, numErr, this]
  have hb1 : (1 : Int) ≤ b := by omega
  have hne : ¬ s = [] := fun e => h0 (by simp [e])
  refine VL_inv (X := Nat) (fun x => ⟨[(0, .str s), (1, .int .i64 b), (2, .int .i64 most), (8, .int .i64 x)], []⟩) (fun x => x ≤ s.length ∧ (s.take x).all (isDig b) = true) (fun x => s.length - x) 0 ?_ ?_ ?_
  · simp only [go_sem, go_sem, seval]
    try rfl
  · exact ⟨Nat.zero_le _, by simp⟩
  rintro x ⟨hx, hd⟩
  simp (config := {maxSteps := 2000000}) only [T_specNumberR, Go.Proofs.Tryd.Dig.tb_specValueR, go_sem, seval]
  (try simp (config := {maxSteps := 2000000}) only [gimp, impB, isT, go_sem, seval])
  refine ⟨fun hlt => ⟨by omega, fun hbad => ?_, fun hgood => ⟨by omega, x + 1, by omega, ⟨by omega, ?_⟩, by omega⟩⟩, fun hge => ?_⟩
  · have := num_bad (b := b) (most := most) (by omega) ((refDig_ge hb _).1 hbad)
    exact ⟨this.2.symm, this.1.symm⟩
  · exact (all_step (by omega) hd).1 ((refDig_lt hb _).1 hgood)
  have : x = s.length := by omega
  subst this
  rw [List.take_length] at hd
  refine VL_inv (X := List UInt8) (fun t => ⟨[(0, .str t), (1, .int .i64 b), (2, .int .i64 most)], []⟩) (fun t => t.length ≤ s.length ∧ 1 ≤ t.length ∧ t.all (isDig b) = true ∧ numV b t = numV b s) (fun t => t.length) s ?_ ?_ ?_
  · simp only [go_sem, go_sem, seval]
    try rfl
  · exact ⟨Nat.le_refl _, by omega, hd, rfl⟩
  rintro t ⟨t1, t2, t3, t4⟩
  simp (config := {maxSteps := 2000000}) only [T_specNumberR, Go.Proofs.Tryd.Dig.tb_specValueR, go_sem, seval]
  (try simp (config := {maxSteps := 2000000}) only [gimp, impB, isT, go_sem, seval])
  refine ⟨fun h => by omega, fun h1 h2 => ⟨by omega, _, rfl, ⟨by simp; omega, by simp; omega, all_drop 1 t3, by rw [numV_zero t2 h2, t4]⟩, by simp; omega⟩, fun h => ⟨fun hl => ?_, fun hl => ?_⟩⟩
  · have h48 : t.getD 0 0 ≠ 48 := by
      intro e
      have e1 : decide (1 < (t.length : Int)) = true := decide_eq_true (by omega)
      rw [e1, e] at h; simp at h
    have g1 := numV_great hb1 t3 t2 h48
    have g2 := pow_19 (n := t.length - 1) hb (by omega)
    have := num_over (most := most) hne hd (by omega)
    exact ⟨this.2.symm, this.1.symm⟩
  refine VL_inv (X := Nat × Int) (fun x => ⟨[(0, .str t), (1, .int .i64 b), (2, .int .i64 most), (9, .int .u64 x.2), (10, .int .i64 x.1)], []⟩) (fun x => x.1 ≤ t.length ∧ x.2 = numV b (t.take x.1) ∧ x.2 ≤ 18446744073709551615) (fun x => t.length - x.1) (0, 0) ?_ ?_ ?_
  · simp only [go_sem, go_sem, seval]
    try rfl
  · exact ⟨Nat.zero_le _, by simp [numV], by simp⟩
  rintro ⟨x, n⟩ ⟨hx', hn0, hn⟩
  simp only at hx' hn0 hn
  subst hn0
  simp (config := {maxSteps := 2000000}) only [T_specNumberR, Go.Proofs.Tryd.Dig.tb_specValueR, go_sem, seval]
  (try simp (config := {maxSteps := 2000000}) only [gimp, impB, isT, go_sem, seval])
  have hnn := numV_nonneg hb1 _ (all_take x t3)
  refine ⟨fun hlt => ?_, fun hge => ?_⟩
  · have hxl : x < t.length := by omega
    have hdig := all_get t3 hxl
    have hd2 := (isDig_iff _ _).1 hdig
    have htk := numV_take_succ b hxl
    have hle := numV_take_le hb1 t3 (x + 1)
    rw [refDig_of hdig]
    generalize digB (t.getD x 0) = d at *
    refine ⟨fun hbig => ?_, fun hsm => ?_⟩
    · have : most < numV b s := by
        rw [← t4]
        rcases hb with rfl | rfl <;> omega
      have := num_over (most := most) hne hd this
      exact ⟨this.2.symm, this.1.symm⟩
    · have hmul : 0 ≤ numV b (t.take x) * b ∧ numV b (t.take x) * b ≤ 18446744073709551600 := by rcases hb with rfl | rfl <;> omega
      exact ⟨by omega, by omega, by omega, by omega, by omega, by omega, (x + 1, numV b (t.take x) * b + d), ⟨rfl, by simp⟩, ⟨by simp only; omega, by rw [htk], by simp only; omega⟩, by simp only; omega⟩
  · have : x = t.length := by omega
    subst this
    rw [List.take_length, t4]
    refine ⟨fun _ => by omega, fun h => ?_, fun h1 h2 => ?_⟩
    · have hnn' := numV_nonneg hb1 _ hd
      have := num_over (most := most) hne hd (by omega)
      exact ⟨this.2.symm, this.1.symm⟩
    · have hnn' := numV_nonneg hb1 _ hd
      have := num_good (most := most) hne hd h2
      exact ⟨by omega, this.2.symm, this.1.symm⟩
def tb_specNumberR : List Blk → List AV → Option (List Blk × AV × Prop)
  | [], [.str s, .int .i64 b, .int .i64 most] => some ([], .tuple [.int .i64 (numVal b most s), .int .i64 (numErr b most s)], (b = 10 ∨ b = 16) ∧ (most ≤ 9223372036854775807) ∧ (s.length ≤ 1000000))
  | _, _ => none
theorem tb_specNumberR_ok : ∀ E args E' res p, tb_specNumberR E args = some (E', res, p) → p → SpecE Tryd.prog 23 E args E' res := by
  intro E args E' res p h hp
  unfold tb_specNumberR at h
  split at h
  · simp only [Option.some.injEq, Prod.mk.injEq] at h
    obtain ⟨rfl, rfl, rfl⟩ := h
    exact (specNumberR _ _ _ hp.1 hp.2.1 hp.2.2)
  · cases h
def T_specFigures : Tbl := fun g E args => nilT g E args
theorem T_specFigures_ok : TblOK Tryd.prog T_specFigures := nilT_ok
set_option maxRecDepth 100000 in
set_option maxHeartbeats 4000000 in
theorem specFigures (n b : Int) (hn : inR .i64 n) (hb : b = 10 ∨ b = 16) : SpecE Tryd.prog 53 [] [.int .i64 n, .int .i64 b] [] (.str (digs b.toNat n.natAbs)) := by
  refine specF0 (C := T_specFigures) (wr := false) (D := fun _ => []) (U := fun _ => none) (res := [.str (digs b.toNat n.natAbs)]) Tryd.Ty.mixed T_specFigures_ok Tryd.func53 (nA := 2) (by decide +kernel) rfl (fun _ => rfl) ?_
  simp only [Tryd.f53, bodyOf, rlOf]
  rw [W_V]
  simp (config := {maxSteps := 2000000}) only [T_specFigures, go_sem, seval]
  (try simp (config := {maxSteps := 2000000}) only [gimp, impB, isT, go_sem, seval])
  refine VL_inv (X := Int × Nat × List UInt8) (fun x => ⟨[(0, .int .i64 x.1), (1, .int .i64 b), (5, .ptr 96 0 0 64), (6, .int .i64 x.2.1)], [(96, .cells 1 false (.int .u8 0) (x.2.2.map byteAV))]⟩)
    (fun x => x.2.2.length = 64 ∧ x.2.1 ≤ 64 ∧ x.1.natAbs < 2 ^ x.2.1 ∧ x.1.natAbs ≤ 9223372036854775808 ∧ inR .i64 x.1 ∧ (if x.1 = 0 ∧ x.2.1 < 64 then [] else digs b.toNat x.1.natAbs) ++ x.2.2.drop x.2.1 = digs b.toNat n.natAbs) (fun x => x.2.1) (n, 64, List.replicate 64 0) ?_ ?_ ?_
  · simp only [go_sem, go_sem, seval]
    try rfl
  · simp only [inR] at hn
    refine ⟨by simp, Nat.le_refl _, ?_, by simp only; omega, hn, by simp⟩
    have : (2 : Nat) ^ 64 = 18446744073709551616 := by decide
    simp only; omega
  rintro ⟨m, at', l⟩ ⟨i1, i2, i3, i4, i5, i6⟩
  simp only at i1 i2 i3 i4 i5 i6
  simp (config := {maxSteps := 2000000}) only [T_specFigures, go_sem, seval]
  (try simp (config := {maxSteps := 2000000}) only [gimp, impB, isT, go_sem, seval])
  have hB : b.toNat = 10 ∨ b.toNat = 16 := by omega
  have hbn : b.natAbs = b.toNat := by omega
  have e1 : (m.tmod b).natAbs = m.natAbs % b.toNat := by rw [Int.natAbs_tmod, hbn]
  have e2 : (m.tdiv b).natAbs = m.natAbs / b.toNat := by rw [Int.natAbs_tdiv, hbn]; rfl
  have e3 := max_abs (m.tmod b)
  rw [e1] at e3
  rw [e3]
  simp only [Int.toNat_natCast, Nat.zero_add, i1]
  simp only [inR] at i5
  have hmod : m.natAbs % b.toNat < 16 := by
    have := Nat.mod_lt m.natAbs (show b.toNat > 0 by omega)
    omega
  have hdiv : m.natAbs / b.toNat ≤ m.natAbs / 10 := Nat.div_le_div_left (by omega) (by omega)
  refine ⟨fun hc => ?_, fun h64 hm0 => ⟨⟨trivial, trivial, by omega, by omega⟩, trivial, ?_⟩⟩
  · have hat : 1 ≤ at' := by
      rcases Nat.eq_zero_or_pos at' with h0 | h0
      · subst h0; simp at i3; omega
      · exact h0
    have hcond : ¬ (m = 0 ∧ at' < 64) := by omega
    rw [if_neg hcond] at i6
    refine ⟨by omega, by omega, by omega, by omega, ⟨trivial, by omega, by omega⟩, ⟨trivial, by omega⟩, ⟨by omega, by omega⟩, (m.tdiv b, at' - 1, l.set (at' - 1) (signN (m.natAbs % b.toNat))), ⟨⟨rfl, by simp only; omega⟩, ?_⟩, ⟨by simp [i1], by simp only; omega, ?_, by simp only; omega, by simp only; omega, ?_⟩, by simp only; omega⟩
    · rw [List.map_set]; rfl
    · simp only
      rw [e2]
      exact half_lt (by omega) (by rw [show at' - 1 + 1 = at' by omega]; exact i3)
    · simp only
      rw [drop_set_at (by omega), show at' - 1 + 1 = at' by omega, ← i6, e2]
      by_cases hsm : m.natAbs < b.toNat
      · have h0 : m.natAbs / b.toNat = 0 := Nat.div_eq_of_lt hsm
        have hz : m.tdiv b = 0 := by omega
        rw [if_pos ⟨hz, by omega⟩, digs_small hsm, Nat.mod_eq_of_lt hsm]
        rfl
      · have h1 : 1 ≤ m.natAbs / b.toNat := (Nat.le_div_iff_mul_le (by omega)).2 (by omega)
        rw [if_neg (by omega), digs_step (n := m.natAbs) (by omega) (by omega) (by omega)]
        simp
  · rw [if_pos ⟨hm0, by omega⟩] at i6
    rw [← i6]
    exact List.take_of_length_le (by simp; omega)
def tb_specFigures : List Blk → List AV → Option (List Blk × AV × Prop)
  | [], [.int .i64 n, .int .i64 b] => some ([], .str (digs b.toNat n.natAbs), (inR .i64 n) ∧ (b = 10 ∨ b = 16))
  | _, _ => none
theorem tb_specFigures_ok : ∀ E args E' res p, tb_specFigures E args = some (E', res, p) → p → SpecE Tryd.prog 53 E args E' res := by
  intro E args E' res p h hp
  unfold tb_specFigures at h
  split at h
  · simp only [Option.some.injEq, Prod.mk.injEq] at h
    obtain ⟨rfl, rfl, rfl⟩ := h
    exact (specFigures _ _ hp.1 hp.2)
  · cases h
def T_specDigitsR : Tbl := fun g E args => nilT g E args
theorem T_specDigitsR_ok : TblOK Tryd.prog T_specDigitsR := nilT_ok
set_option maxRecDepth 100000 in
set_option maxHeartbeats 4000000 in
theorem specDigitsR (n b : Int) (hn : 0 ≤ n ∧ n ≤ 18446744073709551615) (hb : b = 10 ∨ b = 16) : SpecE Tryd.prog 40 [] [.int .u64 n, .int .u64 b] [] (.str (digs b.toNat n.natAbs)) := by
  refine specF0 (C := T_specDigitsR) (wr := false) (D := fun i => []) (U := fun _ => none) (res := [.str (digs b.toNat n.natAbs)]) Tryd.Ty.mixed T_specDigitsR_ok Tryd.func40 (nA := 2) (by decide +kernel) rfl (fun _ => rfl) ?_
  simp only [Tryd.f40, bodyOf, rlOf]
  rw [W_V]
  simp (config := {maxSteps := 2000000}) only [T_specDigitsR, go_sem, seval]
  (try simp (config := {maxSteps := 2000000}) only [gimp, impB, isT, go_sem, seval])
  refine VL_inv (X := Nat × List UInt8) (fun x => ⟨[(0, .int .u64 x.1), (1, .int .u64 b), (5, .str [48, 49, 50, 51, 52, 53, 54, 55, 56, 57, 97, 98, 99, 100, 101, 102]), (6, .str x.2)], []⟩)
    (fun x => x.1 ≤ n.natAbs ∧ digs b.toNat x.1 ++ x.2 = digs b.toNat n.natAbs) (fun x => x.1) (n.natAbs, []) ?_ ?_ ?_
  · simp only [go_sem, go_sem, seval]
    try (exact ⟨by omega, rfl⟩)
    try omega
  · exact ⟨Nat.le_refl _, by simp⟩
  rintro ⟨m, out⟩ ⟨i1, i3⟩
  simp only at i1 i3
  simp (config := {maxSteps := 2000000}) only [T_specDigitsR, go_sem, seval]
  (try simp (config := {maxSteps := 2000000}) only [gimp, impB, isT, go_sem, seval])
  have hB : b.toNat = 10 ∨ b.toNat = 16 := by omega
  have i2 : out.length ≤ 70 := by
    have := digs_len b.toNat n.natAbs
    rw [← i3] at this
    simp at this; omega
  obtain ⟨e1, e2⟩ := tmod_nat hb m
  rw [e1, e2]
  have hlt := Nat.mod_lt m (show b.toNat > 0 by omega)
  have hle : m / b.toNat ≤ m / 10 := Nat.div_le_div_left (by omega) (by omega)
  have hq : (0 : Int) ≤ ((m / b.toNat : Nat) : Int) := Int.natCast_nonneg _
  have e3 : (((m % b.toNat : Nat) : Int) + 1).toNat = m % b.toNat + 1 := by omega
  have e4 := sign_slice (m % b.toNat) (by omega)
  simp only [sign16] at e4
  rw [e3, Int.toNat_natCast, e4]
  refine ⟨fun h => ⟨by omega, by omega, by omega, by omega, by simp only [List.length_cons, List.length_nil]; omega, by omega, (m / b.toNat, [signN (m % b.toNat)] ++ out), ⟨rfl, rfl⟩, ⟨by simp only; omega, ?_⟩, by simp only; omega⟩, fun h => ⟨by omega, by omega, ?_, ?_⟩⟩
  · rw [← i3, digs_step (n := m) (by omega) (by omega) (by omega)]
    simp
  · rw [sign_slice' m (by omega)]; simp only [List.length_cons, List.length_nil]; omega
  · rw [sign_slice' m (by omega), ← i3, digs_small (by omega)]
def tb_specDigitsR : List Blk → List AV → Option (List Blk × AV × Prop)
  | [], [.int .u64 n, .int .u64 b] => some ([], .str (digs b.toNat n.natAbs), (0 ≤ n ∧ n ≤ 18446744073709551615) ∧ (b = 10 ∨ b = 16))
  | _, _ => none
theorem tb_specDigitsR_ok : ∀ E args E' res p, tb_specDigitsR E args = some (E', res, p) → p → SpecE Tryd.prog 40 E args E' res := by
  intro E args E' res p h hp
  unfold tb_specDigitsR at h
  split at h
  · simp only [Option.some.injEq, Prod.mk.injEq] at h
    obtain ⟨rfl, rfl, rfl⟩ := h
    exact (specDigitsR _ _ hp.1 hp.2)
  · cases h
def T_specText : Tbl := fun g E args => (addT nilT 53 Go.Proofs.Tryd.Dig.tb_specFigures) g E args
theorem T_specText_ok : TblOK Tryd.prog T_specText := (addT_ok nilT_ok (by decide +kernel) Go.Proofs.Tryd.Dig.tb_specFigures_ok)
set_option maxRecDepth 100000 in
set_option maxHeartbeats 4000000 in
theorem specText (n : Int) (hn : inR .i64 n) : SpecE Tryd.prog 26 [] [.int .i64 n] [] (.str (textI n)) := by
  refine specF0 (C := T_specText) (wr := false) (D := fun _ => []) (U := fun _ => none) (res := [.str (textI n)]) Tryd.Ty.mixed T_specText_ok Tryd.func26 (nA := 1) (by decide +kernel) rfl (fun _ => rfl) ?_
  simp only [Tryd.f26, bodyOf, rlOf]
  rw [W_V]
  simp (config := {maxSteps := 2000000}) only [T_specText, Go.Proofs.Tryd.Dig.tb_specFigures, go_sem, seval]
  (try simp (config := {maxSteps := 2000000}) only [gimp, impB, isT, go_sem, seval])
  simp only [inR] at hn
  have := digs_len 10 n.natAbs
  refine ⟨fun h => ⟨hn, by omega, by simp [textI, h]⟩, fun h => ⟨hn, by simp [textI, Int.not_lt.2 h]⟩⟩
def tb_specText : List Blk → List AV → Option (List Blk × AV × Prop)
  | [], [.int .i64 n] => some ([], .str (textI n), (inR .i64 n))
  | _, _ => none
theorem tb_specText_ok : ∀ E args E' res p, tb_specText E args = some (E', res, p) → p → SpecE Tryd.prog 26 E args E' res := by
  intro E args E' res p h hp
  unfold tb_specText at h
  split at h
  · simp only [Option.some.injEq, Prod.mk.injEq] at h
    obtain ⟨rfl, rfl, rfl⟩ := h
    exact (specText _ hp)
  · cases h
def T_specTextR : Tbl := fun g E args => (addT nilT 40 Go.Proofs.Tryd.Dig.tb_specDigitsR) g E args
theorem T_specTextR_ok : TblOK Tryd.prog T_specTextR := (addT_ok nilT_ok (by decide +kernel) Go.Proofs.Tryd.Dig.tb_specDigitsR_ok)
set_option maxRecDepth 100000 in
set_option maxHeartbeats 4000000 in
theorem specTextR (n : Int) (hn : inR .i64 n) : SpecE Tryd.prog 29 [] [.int .i64 n] [] (.str (textI n)) := by
  refine specF0 (C := T_specTextR) (wr := false) (D := fun _ => []) (U := fun _ => none) (res := [.str (textI n)]) Tryd.Ty.mixed T_specTextR_ok Tryd.func29 (nA := 1) (by decide +kernel) rfl (fun _ => rfl) ?_
  simp only [Tryd.f29, bodyOf, rlOf]
  rw [W_V]
  simp (config := {maxSteps := 2000000}) only [T_specTextR, Go.Proofs.Tryd.Dig.tb_specDigitsR, go_sem, seval]
  (try simp (config := {maxSteps := 2000000}) only [gimp, impB, isT, go_sem, seval])
  simp only [inR] at hn
  have := digs_len 10 (0 - (n + 1) + 1).natAbs
  refine ⟨fun h => ⟨by omega, by omega, by omega, by omega, by omega, by omega, ?_⟩, fun h => ⟨by omega, by omega, by simp [textI, Int.not_lt.2 h]⟩⟩
  simp only [textI, if_pos h]
  rw [show (0 - (n + 1) + 1).natAbs = n.natAbs by omega]
def tb_specTextR : List Blk → List AV → Option (List Blk × AV × Prop)
  | [], [.int .i64 n] => some ([], .str (textI n), (inR .i64 n))
  | _, _ => none
theorem tb_specTextR_ok : ∀ E args E' res p, tb_specTextR E args = some (E', res, p) → p → SpecE Tryd.prog 29 E args E' res := by
  intro E args E' res p h hp
  unfold tb_specTextR at h
  split at h
  · simp only [Option.some.injEq, Prod.mk.injEq] at h
    obtain ⟨rfl, rfl, rfl⟩ := h
    exact (specTextR _ hp)
  · cases h
end Go.Proofs.Tryd.Dig
end
section
set_option linter.unusedVariables false
set_option linter.unusedSimpArgs false
namespace Go.Mdl
open Go Go.Abs
theorem numV_digsU {b : Nat} (hb : b = 10 ∨ b = 16) : ∀ (f n : Nat), n < 2 ^ f → 1 ≤ f → numV b (digsF b f n) = n ∧ (digsF b f n).all (isDig b) = true
  | 0, n, _, h => by omega
  | f + 1, n, hn, _ => by
    have hd : ∀ m, m < b → digB (signN m) = (m : Int) := by
      have h16 : ∀ m, m < 16 → digB (signN m) = (m : Int) := by decide
      intro m hm; exact h16 m (by omega)
    have hdig : ∀ m, m < b → isDig b (signN m) = true := fun m hm => by rw [isDig_iff, hd m hm]; omega
    simp only [digsF]
    split
    · rename_i h
      refine ⟨?_, by simp only [List.all_cons, List.all_nil, hdig n h, Bool.and_true]⟩
      have := numV_cons (b := b) (signN n) []
      rw [this, hd n h]; simp [numV]
    · rename_i h
      have h1 := half_lt (b := b) (n := n) (f := f) (by omega) hn
      have hp : 1 ≤ n / b := (Nat.le_div_iff_mul_le (by omega)).2 (by omega)
      have f1 : 1 ≤ f := by
        cases f with
        | zero => simp at h1; omega
        | succ f => omega
      obtain ⟨i1, i2⟩ := numV_digsU hb f (n / b) h1 f1
      have hm := Nat.mod_lt n (show b > 0 by omega)
      refine ⟨?_, by rw [List.all_append, i2]; simp only [List.all_cons, List.all_nil, hdig _ hm, Bool.and_true]⟩
      rw [numV_snoc, i1, hd _ hm]
      have := Nat.div_add_mod n b
      have e : ((n / b : Nat) : Int) * b = ((b * (n / b) : Nat) : Int) := by rw [Nat.mul_comm]; simp
      rw [e]; omega
theorem num_textU {p most : Int} (h0 : 0 ≤ p) (h1 : p ≤ most) (h2 : p < 18446744073709551616) : numErr 10 most (textI p) = 0 ∧ numVal 10 most (textI p) = p := by
  have e : textI p = digs 10 p.natAbs := by unfold textI; rw [if_neg (by omega)]
  have hlt : p.natAbs < 2 ^ 70 := by
    have : (18446744073709551616 : Nat) ≤ 2 ^ 70 := by decide
    omega
  obtain ⟨i1, i2⟩ := numV_digsU (b := 10) (.inl rfl) 70 p.natAbs hlt (by decide)
  have hpos := digs_pos 10 p.natAbs
  have hne : ¬ digs 10 p.natAbs = [] := fun e => by rw [e] at hpos; simp at hpos
  have i1' : numV 10 (digs 10 p.natAbs) = p := by
    have : numV ((10 : Nat) : Int) (digs 10 p.natAbs) = (p.natAbs : Int) := i1
    rw [show ((10 : Nat) : Int) = 10 from rfl] at this
    rw [this]; omega
  have i2' : (digs 10 p.natAbs).all (isDig 10) = true := i2
  rw [e]
  have := num_good (most := most) hne i2' (by rw [i1']; exact h1)
  exact ⟨this.1, by rw [this.2, i1']⟩
theorem text_digits {p : Int} (h0 : 0 ≤ p) (h2 : p < 18446744073709551616) : (textI p).all (isDig 10) = true := by
  have e : textI p = digs 10 p.natAbs := by unfold textI; rw [if_neg (by omega)]
  have hlt : p.natAbs < 2 ^ 70 := by
    have : (18446744073709551616 : Nat) ≤ 2 ^ 70 := by decide
    omega
  rw [e]
  exact (numV_digsU (b := 10) (.inl rfl) 70 p.natAbs hlt (by decide)).2
theorem dig_ne {c x : UInt8} (h : isDig 10 c = true) (hx : isDig 10 x = false) : c ≠ x := fun e => by rw [e, hx] at h; cases h
theorem num_textI {p most : Int} (h0 : 0 ≤ p) (h1 : p ≤ most) (h2 : p < 18446744073709551616) : numErr 10 most (textI p) = 0 ∧ numVal 10 most (textI p) = p := num_textU h0 h1 h2
end Go.Mdl
end
section
set_option linter.unusedVariables false
set_option linter.unusedSimpArgs false
namespace Go.Mdl
open Go Go.Abs
theorem spl_step {c : UInt8} {s : List UInt8} {i f : Nat} (hi : i < s.length) (hf : f ≤ i) (hc : s.getD i 0 = c) (hn : ∀ x ∈ (s.take i).drop f, x ≠ c) : splitB c (s.drop f) = (s.take i).drop f :: splitB c (s.drop (i + 1)) := by
  have e : s.drop f = (s.take i).drop f ++ c :: s.drop (i + 1) := by
    have h1 : s = s.take i ++ s.drop i := (List.take_append_drop i s).symm
    have h2 : s.drop i = c :: s.drop (i + 1) := by
      rw [List.drop_eq_getElem_cons hi]
      congr 1
      rw [List.getD_eq_getElem?_getD, List.getElem?_eq_getElem hi] at hc
      exact hc
    conv => lhs; rw [h1]
    rw [List.drop_append_of_le_length (by rw [List.length_take]; omega), h2]
  rw [e, splitB_app hn]
theorem spl_next {c : UInt8} {s : List UInt8} {i f : Nat} (hi : i < s.length) (hf : f ≤ i) (hc : ¬ s.getD i 0 = c) (hn : ∀ x ∈ (s.take i).drop f, x ≠ c) : ∀ x ∈ (s.take (i + 1)).drop f, x ≠ c := by
  intro x hx
  rw [take_succ_getD 0 hi, List.drop_append_of_le_length (by rw [List.length_take]; omega)] at hx
  rcases List.mem_append.1 hx with hx | hx
  · exact hn x hx
  · simp only [List.mem_singleton] at hx
    subst hx; exact hc
end Go.Mdl
end
