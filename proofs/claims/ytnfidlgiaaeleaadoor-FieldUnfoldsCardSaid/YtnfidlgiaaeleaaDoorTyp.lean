/- Facts about the seat's types. No condition. -/
import Derived.Test.YtnfidlgiaaeleaaDoorAbsT
import Derived.Test.YtnfidlgiaaeleaaDoorProg
import Derived.KernelRfl
set_option linter.unusedVariables false
namespace Go.Proofs.Tryd.Ty
open Go Go.Abs Go.Proofs

theorem mixed : Tryd.prog.follows .mixedOrders = true := by kernel_rfl
theorem g1 : Tryd.prog.eqGuardType Tryd.prog.depth 1 = false := by kernel_rfl
theorem s2 : szT Tryd.prog 2 = some 1 := by kernel_rfl
theorem b2 : byT Tryd.prog 2 = some 8 := by kernel_rfl
theorem a2 : aggT Tryd.prog 2 = some false := by kernel_rfl
theorem z2 : zT Tryd.prog 2 = some (.int .i64 0) := by kernel_rfl
theorem s3 : szT Tryd.prog 3 = some 1 := by kernel_rfl
theorem b3 : byT Tryd.prog 3 = some 8 := by kernel_rfl
theorem a3 : aggT Tryd.prog 3 = some false := by kernel_rfl
theorem z3 : zT Tryd.prog 3 = some (.int .i64 0) := by kernel_rfl
theorem s4 : szT Tryd.prog 4 = some 1 := by kernel_rfl
theorem b4 : byT Tryd.prog 4 = some 1 := by kernel_rfl
theorem a4 : aggT Tryd.prog 4 = some false := by kernel_rfl
theorem z4 : zT Tryd.prog 4 = some (.bool false) := by kernel_rfl
theorem s5 : szT Tryd.prog 5 = some 1 := by kernel_rfl
theorem b5 : byT Tryd.prog 5 = some 1 := by kernel_rfl
theorem a5 : aggT Tryd.prog 5 = some false := by kernel_rfl
theorem z5 : zT Tryd.prog 5 = some (.int .u8 0) := by kernel_rfl
theorem s6 : szT Tryd.prog 6 = some 1 := by kernel_rfl
theorem b6 : byT Tryd.prog 6 = some 1 := by kernel_rfl
theorem a6 : aggT Tryd.prog 6 = some false := by kernel_rfl
theorem z6 : zT Tryd.prog 6 = some (.int .u8 0) := by kernel_rfl
theorem s7 : szT Tryd.prog 7 = some 4 := by kernel_rfl
theorem b7 : byT Tryd.prog 7 = some 24 := by kernel_rfl
theorem a7 : aggT Tryd.prog 7 = some true := by kernel_rfl
theorem g7 : Tryd.prog.eqGuardType Tryd.prog.depth 7 = false := by kernel_rfl
theorem h7 : Tryd.prog.stoodInHeld 7 = false := by kernel_rfl
theorem z7 : zT Tryd.prog 7 = some (.agg [.int .i64 0, .int .i64 0, .bool false, .int .u8 0]) := by kernel_rfl
theorem s8 : szT Tryd.prog 8 = some 4 := by kernel_rfl
theorem b8 : byT Tryd.prog 8 = some 24 := by kernel_rfl
theorem a8 : aggT Tryd.prog 8 = some true := by kernel_rfl
theorem g8 : Tryd.prog.eqGuardType Tryd.prog.depth 8 = false := by kernel_rfl
theorem h8 : Tryd.prog.stoodInHeld 8 = false := by kernel_rfl
theorem z8 : zT Tryd.prog 8 = some (.agg [.int .i64 0, .int .i64 0, .bool false, .int .u8 0]) := by kernel_rfl
theorem s9 : szT Tryd.prog 9 = some 1 := by kernel_rfl
theorem b9 : byT Tryd.prog 9 = some 16 := by kernel_rfl
theorem a9 : aggT Tryd.prog 9 = some false := by kernel_rfl
theorem z9 : zT Tryd.prog 9 = some (.str []) := by kernel_rfl
theorem s10 : szT Tryd.prog 10 = some 1 := by kernel_rfl
theorem b10 : byT Tryd.prog 10 = some 16 := by kernel_rfl
theorem a10 : aggT Tryd.prog 10 = some false := by kernel_rfl
theorem z10 : zT Tryd.prog 10 = some (.str []) := by kernel_rfl
theorem s11 : szT Tryd.prog 11 = some 1 := by kernel_rfl
theorem b11 : byT Tryd.prog 11 = some 16 := by kernel_rfl
theorem a11 : aggT Tryd.prog 11 = some false := by kernel_rfl
theorem z11 : zT Tryd.prog 11 = some (.str []) := by kernel_rfl
theorem s12 : szT Tryd.prog 12 = some 1 := by kernel_rfl
theorem b12 : byT Tryd.prog 12 = some 8 := by kernel_rfl
theorem a12 : aggT Tryd.prog 12 = some false := by kernel_rfl
theorem z12 : zT Tryd.prog 12 = some (.int .u64 0) := by kernel_rfl
theorem s13 : szT Tryd.prog 13 = some 2 := by kernel_rfl
theorem b13 : byT Tryd.prog 13 = some 24 := by kernel_rfl
theorem a13 : aggT Tryd.prog 13 = some true := by kernel_rfl
theorem z13 : zT Tryd.prog 13 = some (.agg [.str [], .int .u64 0]) := by kernel_rfl
theorem s14 : szT Tryd.prog 14 = some 2 := by kernel_rfl
theorem b14 : byT Tryd.prog 14 = some 24 := by kernel_rfl
theorem a14 : aggT Tryd.prog 14 = some true := by kernel_rfl
theorem z14 : zT Tryd.prog 14 = some (.agg [.str [], .int .u64 0]) := by kernel_rfl
theorem g15 : Tryd.prog.eqGuardType Tryd.prog.depth 15 = false := by kernel_rfl
theorem s15 : szT Tryd.prog 15 = some 1 := by kernel_rfl
theorem b15 : byT Tryd.prog 15 = some 8 := by kernel_rfl
theorem a15 : aggT Tryd.prog 15 = some false := by kernel_rfl
theorem z15 : zT Tryd.prog 15 = some (.nilp) := by kernel_rfl
theorem g16 : Tryd.prog.eqGuardType Tryd.prog.depth 16 = false := by kernel_rfl
theorem s16 : szT Tryd.prog 16 = some 1 := by kernel_rfl
theorem b16 : byT Tryd.prog 16 = some 8 := by kernel_rfl
theorem a16 : aggT Tryd.prog 16 = some false := by kernel_rfl
theorem z16 : zT Tryd.prog 16 = some (.nilp) := by kernel_rfl
theorem g17 : Tryd.prog.eqGuardType Tryd.prog.depth 17 = false := by kernel_rfl
theorem s17 : szT Tryd.prog 17 = some 1 := by kernel_rfl
theorem b17 : byT Tryd.prog 17 = some 8 := by kernel_rfl
theorem a17 : aggT Tryd.prog 17 = some false := by kernel_rfl
theorem z17 : zT Tryd.prog 17 = some (.nilp) := by kernel_rfl
theorem s18 : szT Tryd.prog 18 = some 1 := by kernel_rfl
theorem b18 : byT Tryd.prog 18 = some 8 := by kernel_rfl
theorem a18 : aggT Tryd.prog 18 = some true := by kernel_rfl
theorem z18 : zT Tryd.prog 18 = some (.agg [.nilp]) := by kernel_rfl
theorem s19 : szT Tryd.prog 19 = some 1 := by kernel_rfl
theorem b19 : byT Tryd.prog 19 = some 8 := by kernel_rfl
theorem a19 : aggT Tryd.prog 19 = some true := by kernel_rfl
theorem z19 : zT Tryd.prog 19 = some (.agg [.nilp]) := by kernel_rfl
theorem s20 : szT Tryd.prog 20 = some 1 := by kernel_rfl
theorem b20 : byT Tryd.prog 20 = some 16 := by kernel_rfl
theorem a20 : aggT Tryd.prog 20 = some false := by kernel_rfl
theorem z20 : zT Tryd.prog 20 = some (.nili) := by kernel_rfl
theorem s21 : szT Tryd.prog 21 = some 1 := by kernel_rfl
theorem b21 : byT Tryd.prog 21 = some 4 := by kernel_rfl
theorem a21 : aggT Tryd.prog 21 = some false := by kernel_rfl
theorem z21 : zT Tryd.prog 21 = some (.int .i32 0) := by kernel_rfl
theorem g22 : Tryd.prog.eqGuardType Tryd.prog.depth 22 = false := by kernel_rfl
theorem s22 : szT Tryd.prog 22 = some 1 := by kernel_rfl
theorem b22 : byT Tryd.prog 22 = some 24 := by kernel_rfl
theorem a22 : aggT Tryd.prog 22 = some false := by kernel_rfl
theorem z22 : zT Tryd.prog 22 = some (.nils) := by kernel_rfl
theorem g23 : Tryd.prog.eqGuardType Tryd.prog.depth 23 = false := by kernel_rfl
theorem g24 : Tryd.prog.eqGuardType Tryd.prog.depth 24 = false := by kernel_rfl
theorem s25 : szT Tryd.prog 25 = some 1 := by kernel_rfl
theorem b25 : byT Tryd.prog 25 = some 8 := by kernel_rfl
theorem a25 : aggT Tryd.prog 25 = some false := by kernel_rfl
theorem z25 : zT Tryd.prog 25 = some (.int .i64 0) := by kernel_rfl
theorem g27 : Tryd.prog.eqGuardType Tryd.prog.depth 27 = false := by kernel_rfl
theorem g28 : Tryd.prog.eqGuardType Tryd.prog.depth 28 = false := by kernel_rfl
theorem g29 : Tryd.prog.eqGuardType Tryd.prog.depth 29 = false := by kernel_rfl
theorem g30 : Tryd.prog.eqGuardType Tryd.prog.depth 30 = false := by kernel_rfl
theorem g31 : Tryd.prog.eqGuardType Tryd.prog.depth 31 = false := by kernel_rfl
theorem s32 : szT Tryd.prog 32 = some 2 := by kernel_rfl
theorem b32 : byT Tryd.prog 32 = some 32 := by kernel_rfl
theorem a32 : aggT Tryd.prog 32 = some true := by kernel_rfl
theorem g32 : Tryd.prog.eqGuardType Tryd.prog.depth 32 = false := by kernel_rfl
theorem h32 : Tryd.prog.stoodInHeld 32 = false := by kernel_rfl
theorem z32 : zT Tryd.prog 32 = some (.agg [.str [], .str []]) := by kernel_rfl
theorem s33 : szT Tryd.prog 33 = some 2 := by kernel_rfl
theorem b33 : byT Tryd.prog 33 = some 32 := by kernel_rfl
theorem a33 : aggT Tryd.prog 33 = some true := by kernel_rfl
theorem g33 : Tryd.prog.eqGuardType Tryd.prog.depth 33 = false := by kernel_rfl
theorem h33 : Tryd.prog.stoodInHeld 33 = false := by kernel_rfl
theorem z33 : zT Tryd.prog 33 = some (.agg [.str [], .str []]) := by kernel_rfl
theorem g34 : Tryd.prog.eqGuardType Tryd.prog.depth 34 = false := by kernel_rfl
theorem s34 : szT Tryd.prog 34 = some 1 := by kernel_rfl
theorem b34 : byT Tryd.prog 34 = some 24 := by kernel_rfl
theorem a34 : aggT Tryd.prog 34 = some false := by kernel_rfl
theorem z34 : zT Tryd.prog 34 = some (.nils) := by kernel_rfl
theorem g35 : Tryd.prog.eqGuardType Tryd.prog.depth 35 = false := by kernel_rfl
theorem g37 : Tryd.prog.eqGuardType Tryd.prog.depth 37 = false := by kernel_rfl
theorem g38 : Tryd.prog.eqGuardType Tryd.prog.depth 38 = false := by kernel_rfl
theorem g39 : Tryd.prog.eqGuardType Tryd.prog.depth 39 = false := by kernel_rfl
theorem g40 : Tryd.prog.eqGuardType Tryd.prog.depth 40 = false := by kernel_rfl
theorem g42 : Tryd.prog.eqGuardType Tryd.prog.depth 42 = false := by kernel_rfl
theorem g43 : Tryd.prog.eqGuardType Tryd.prog.depth 43 = false := by kernel_rfl
theorem g44 : Tryd.prog.eqGuardType Tryd.prog.depth 44 = false := by kernel_rfl
theorem g45 : Tryd.prog.eqGuardType Tryd.prog.depth 45 = false := by kernel_rfl
theorem g47 : Tryd.prog.eqGuardType Tryd.prog.depth 47 = false := by kernel_rfl
theorem g48 : Tryd.prog.eqGuardType Tryd.prog.depth 48 = false := by kernel_rfl
theorem g49 : Tryd.prog.eqGuardType Tryd.prog.depth 49 = false := by kernel_rfl
theorem g50 : Tryd.prog.eqGuardType Tryd.prog.depth 50 = false := by kernel_rfl
theorem g51 : Tryd.prog.eqGuardType Tryd.prog.depth 51 = false := by kernel_rfl
theorem g52 : Tryd.prog.eqGuardType Tryd.prog.depth 52 = false := by kernel_rfl
theorem g53 : Tryd.prog.eqGuardType Tryd.prog.depth 53 = false := by kernel_rfl
theorem g55 : Tryd.prog.eqGuardType Tryd.prog.depth 55 = false := by kernel_rfl
theorem g56 : Tryd.prog.eqGuardType Tryd.prog.depth 56 = false := by kernel_rfl
theorem g57 : Tryd.prog.eqGuardType Tryd.prog.depth 57 = false := by kernel_rfl
theorem g58 : Tryd.prog.eqGuardType Tryd.prog.depth 58 = false := by kernel_rfl
theorem g59 : Tryd.prog.eqGuardType Tryd.prog.depth 59 = false := by kernel_rfl
theorem g60 : Tryd.prog.eqGuardType Tryd.prog.depth 60 = false := by kernel_rfl
theorem g61 : Tryd.prog.eqGuardType Tryd.prog.depth 61 = false := by kernel_rfl
theorem g63 : Tryd.prog.eqGuardType Tryd.prog.depth 63 = false := by kernel_rfl
theorem g64 : Tryd.prog.eqGuardType Tryd.prog.depth 64 = false := by kernel_rfl
theorem g65 : Tryd.prog.eqGuardType Tryd.prog.depth 65 = false := by kernel_rfl
theorem g66 : Tryd.prog.eqGuardType Tryd.prog.depth 66 = false := by kernel_rfl
theorem g67 : Tryd.prog.eqGuardType Tryd.prog.depth 67 = false := by kernel_rfl
theorem g68 : Tryd.prog.eqGuardType Tryd.prog.depth 68 = false := by kernel_rfl
theorem g69 : Tryd.prog.eqGuardType Tryd.prog.depth 69 = false := by kernel_rfl
theorem g70 : Tryd.prog.eqGuardType Tryd.prog.depth 70 = false := by kernel_rfl
theorem s71 : szT Tryd.prog 71 = some 1 := by kernel_rfl
theorem b71 : byT Tryd.prog 71 = some 8 := by kernel_rfl
theorem a71 : aggT Tryd.prog 71 = some false := by kernel_rfl
theorem z71 : zT Tryd.prog 71 = some (.int .u64 0) := by kernel_rfl
theorem g72 : Tryd.prog.eqGuardType Tryd.prog.depth 72 = false := by kernel_rfl
theorem g73 : Tryd.prog.eqGuardType Tryd.prog.depth 73 = false := by kernel_rfl
theorem g74 : Tryd.prog.eqGuardType Tryd.prog.depth 74 = false := by kernel_rfl
theorem g75 : Tryd.prog.eqGuardType Tryd.prog.depth 75 = false := by kernel_rfl
theorem g76 : Tryd.prog.eqGuardType Tryd.prog.depth 76 = false := by kernel_rfl
theorem g77 : Tryd.prog.eqGuardType Tryd.prog.depth 77 = false := by kernel_rfl
theorem g78 : Tryd.prog.eqGuardType Tryd.prog.depth 78 = false := by kernel_rfl
theorem g79 : Tryd.prog.eqGuardType Tryd.prog.depth 79 = false := by kernel_rfl
theorem s80 : szT Tryd.prog 80 = some 256 := by kernel_rfl
theorem b80 : byT Tryd.prog 80 = some 256 := by kernel_rfl
theorem a80 : aggT Tryd.prog 80 = some true := by kernel_rfl
theorem g80 : Tryd.prog.eqGuardType Tryd.prog.depth 80 = false := by kernel_rfl
theorem h80 : Tryd.prog.stoodInHeld 80 = false := by kernel_rfl
theorem z80 : zT Tryd.prog 80 = some (.agg [.bool false, .bool false, .bool false, .bool false, .bool false, .bool false, .bool false, .bool false, .bool false, .bool false, .bool false, .bool false, .bool false, .bool false, .bool false, .bool false, .bool false, .bool false, .bool false, .bool false, .bool false, .bool false, .bool false, .bool false, .bool false, .bool false, .bool false, .bool false, .bool false, .bool false, .bool false, .bool false, .bool false, .bool false, .bool false, .bool false, .bool false, .bool false, .bool false, .bool false, .bool false, .bool false, .bool false, .bool false, .bool false, .bool false, .bool false, .bool false, .bool false, .bool false, .bool false, .bool false, .bool false, .bool false, .bool false, .bool false, .bool false, .bool false, .bool false, .bool false, .bool false, .bool false, .bool false, .bool false, .bool false, .bool false, .bool false, .bool false, .bool false, .bool false, .bool false, .bool false, .bool false, .bool false, .bool false, .bool false, .bool false, .bool false, .bool false, .bool false, .bool false, .bool false, .bool false, .bool false, .bool false, .bool false, .bool false, .bool false, .bool false, .bool false, .bool false, .bool false, .bool false, .bool false, .bool false, .bool false, .bool false, .bool false, .bool false, .bool false, .bool false, .bool false, .bool false, .bool false, .bool false, .bool false, .bool false, .bool false, .bool false, .bool false, .bool false, .bool false, .bool false, .bool false, .bool false, .bool false, .bool false, .bool false, .bool false, .bool false, .bool false, .bool false, .bool false, .bool false, .bool false, .bool false, .bool false, .bool false, .bool false, .bool false, .bool false, .bool false, .bool false, .bool false, .bool false, .bool false, .bool false, .bool false, .bool false, .bool false, .bool false, .bool false, .bool false, .bool false, .bool false, .bool false, .bool false, .bool false, .bool false, .bool false, .bool false, .bool false, .bool false, .bool false, .bool false, .bool false, .bool false, .bool false, .bool false, .bool false, .bool false, .bool false, .bool false, .bool false, .bool false, .bool false, .bool false, .bool false, .bool false, .bool false, .bool false, .bool false, .bool false, .bool false, .bool false, .bool false, .bool false, .bool false, .bool false, .bool false, .bool false, .bool false, .bool false, .bool false, .bool false, .bool false, .bool false, .bool false, .bool false, .bool false, .bool false, .bool false, .bool false, .bool false, .bool false, .bool false, .bool false, .bool false, .bool false, .bool false, .bool false, .bool false, .bool false, .bool false, .bool false, .bool false, .bool false, .bool false, .bool false, .bool false, .bool false, .bool false, .bool false, .bool false, .bool false, .bool false, .bool false, .bool false, .bool false, .bool false, .bool false, .bool false, .bool false, .bool false, .bool false, .bool false, .bool false, .bool false, .bool false, .bool false, .bool false, .bool false, .bool false, .bool false, .bool false, .bool false, .bool false, .bool false, .bool false, .bool false, .bool false, .bool false, .bool false, .bool false, .bool false, .bool false, .bool false, .bool false, .bool false, .bool false, .bool false, .bool false, .bool false, .bool false, .bool false, .bool false]) := by kernel_rfl
theorem s81 : szT Tryd.prog 81 = some 256 := by kernel_rfl
theorem b81 : byT Tryd.prog 81 = some 256 := by kernel_rfl
theorem a81 : aggT Tryd.prog 81 = some true := by kernel_rfl
theorem g81 : Tryd.prog.eqGuardType Tryd.prog.depth 81 = false := by kernel_rfl
theorem h81 : Tryd.prog.stoodInHeld 81 = false := by kernel_rfl
theorem z81 : zT Tryd.prog 81 = some (.agg [.bool false, .bool false, .bool false, .bool false, .bool false, .bool false, .bool false, .bool false, .bool false, .bool false, .bool false, .bool false, .bool false, .bool false, .bool false, .bool false, .bool false, .bool false, .bool false, .bool false, .bool false, .bool false, .bool false, .bool false, .bool false, .bool false, .bool false, .bool false, .bool false, .bool false, .bool false, .bool false, .bool false, .bool false, .bool false, .bool false, .bool false, .bool false, .bool false, .bool false, .bool false, .bool false, .bool false, .bool false, .bool false, .bool false, .bool false, .bool false, .bool false, .bool false, .bool false, .bool false, .bool false, .bool false, .bool false, .bool false, .bool false, .bool false, .bool false, .bool false, .bool false, .bool false, .bool false, .bool false, .bool false, .bool false, .bool false, .bool false, .bool false, .bool false, .bool false, .bool false, .bool false, .bool false, .bool false, .bool false, .bool false, .bool false, .bool false, .bool false, .bool false, .bool false, .bool false, .bool false, .bool false, .bool false, .bool false, .bool false, .bool false, .bool false, .bool false, .bool false, .bool false, .bool false, .bool false, .bool false, .bool false, .bool false, .bool false, .bool false, .bool false, .bool false, .bool false, .bool false, .bool false, .bool false, .bool false, .bool false, .bool false, .bool false, .bool false, .bool false, .bool false, .bool false, .bool false, .bool false, .bool false, .bool false, .bool false, .bool false, .bool false, .bool false, .bool false, .bool false, .bool false, .bool false, .bool false, .bool false, .bool false, .bool false, .bool false, .bool false, .bool false, .bool false, .bool false, .bool false, .bool false, .bool false, .bool false, .bool false, .bool false, .bool false, .bool false, .bool false, .bool false, .bool false, .bool false, .bool false, .bool false, .bool false, .bool false, .bool false, .bool false, .bool false, .bool false, .bool false, .bool false, .bool false, .bool false, .bool false, .bool false, .bool false, .bool false, .bool false, .bool false, .bool false, .bool false, .bool false, .bool false, .bool false, .bool false, .bool false, .bool false, .bool false, .bool false, .bool false, .bool false, .bool false, .bool false, .bool false, .bool false, .bool false, .bool false, .bool false, .bool false, .bool false, .bool false, .bool false, .bool false, .bool false, .bool false, .bool false, .bool false, .bool false, .bool false, .bool false, .bool false, .bool false, .bool false, .bool false, .bool false, .bool false, .bool false, .bool false, .bool false, .bool false, .bool false, .bool false, .bool false, .bool false, .bool false, .bool false, .bool false, .bool false, .bool false, .bool false, .bool false, .bool false, .bool false, .bool false, .bool false, .bool false, .bool false, .bool false, .bool false, .bool false, .bool false, .bool false, .bool false, .bool false, .bool false, .bool false, .bool false, .bool false, .bool false, .bool false, .bool false, .bool false, .bool false, .bool false, .bool false, .bool false, .bool false, .bool false, .bool false, .bool false, .bool false, .bool false, .bool false, .bool false, .bool false, .bool false, .bool false, .bool false, .bool false, .bool false]) := by kernel_rfl
theorem g83 : Tryd.prog.eqGuardType Tryd.prog.depth 83 = false := by kernel_rfl
theorem g84 : Tryd.prog.eqGuardType Tryd.prog.depth 84 = false := by kernel_rfl
theorem g85 : Tryd.prog.eqGuardType Tryd.prog.depth 85 = false := by kernel_rfl
theorem s85 : szT Tryd.prog 85 = some 1 := by kernel_rfl
theorem b85 : byT Tryd.prog 85 = some 8 := by kernel_rfl
theorem a85 : aggT Tryd.prog 85 = some false := by kernel_rfl
theorem z85 : zT Tryd.prog 85 = some (.nilp) := by kernel_rfl
theorem g86 : Tryd.prog.eqGuardType Tryd.prog.depth 86 = false := by kernel_rfl
theorem g87 : Tryd.prog.eqGuardType Tryd.prog.depth 87 = false := by kernel_rfl
theorem g88 : Tryd.prog.eqGuardType Tryd.prog.depth 88 = false := by kernel_rfl
theorem g89 : Tryd.prog.eqGuardType Tryd.prog.depth 89 = false := by kernel_rfl
theorem s90 : szT Tryd.prog 90 = some 64 := by kernel_rfl
theorem b90 : byT Tryd.prog 90 = some 64 := by kernel_rfl
theorem a90 : aggT Tryd.prog 90 = some true := by kernel_rfl
theorem g90 : Tryd.prog.eqGuardType Tryd.prog.depth 90 = false := by kernel_rfl
theorem h90 : Tryd.prog.stoodInHeld 90 = false := by kernel_rfl
theorem z90 : zT Tryd.prog 90 = some (.agg [.int .u8 0, .int .u8 0, .int .u8 0, .int .u8 0, .int .u8 0, .int .u8 0, .int .u8 0, .int .u8 0, .int .u8 0, .int .u8 0, .int .u8 0, .int .u8 0, .int .u8 0, .int .u8 0, .int .u8 0, .int .u8 0, .int .u8 0, .int .u8 0, .int .u8 0, .int .u8 0, .int .u8 0, .int .u8 0, .int .u8 0, .int .u8 0, .int .u8 0, .int .u8 0, .int .u8 0, .int .u8 0, .int .u8 0, .int .u8 0, .int .u8 0, .int .u8 0, .int .u8 0, .int .u8 0, .int .u8 0, .int .u8 0, .int .u8 0, .int .u8 0, .int .u8 0, .int .u8 0, .int .u8 0, .int .u8 0, .int .u8 0, .int .u8 0, .int .u8 0, .int .u8 0, .int .u8 0, .int .u8 0, .int .u8 0, .int .u8 0, .int .u8 0, .int .u8 0, .int .u8 0, .int .u8 0, .int .u8 0, .int .u8 0, .int .u8 0, .int .u8 0, .int .u8 0, .int .u8 0, .int .u8 0, .int .u8 0, .int .u8 0, .int .u8 0]) := by kernel_rfl
theorem g91 : Tryd.prog.eqGuardType Tryd.prog.depth 91 = false := by kernel_rfl
theorem s91 : szT Tryd.prog 91 = some 1 := by kernel_rfl
theorem b91 : byT Tryd.prog 91 = some 24 := by kernel_rfl
theorem a91 : aggT Tryd.prog 91 = some false := by kernel_rfl
theorem z91 : zT Tryd.prog 91 = some (.nils) := by kernel_rfl
theorem g92 : Tryd.prog.eqGuardType Tryd.prog.depth 92 = false := by kernel_rfl
theorem g94 : Tryd.prog.eqGuardType Tryd.prog.depth 94 = false := by kernel_rfl
theorem g95 : Tryd.prog.eqGuardType Tryd.prog.depth 95 = false := by kernel_rfl
theorem g96 : Tryd.prog.eqGuardType Tryd.prog.depth 96 = false := by kernel_rfl
theorem g97 : Tryd.prog.eqGuardType Tryd.prog.depth 97 = false := by kernel_rfl
theorem g98 : Tryd.prog.eqGuardType Tryd.prog.depth 98 = false := by kernel_rfl
theorem g99 : Tryd.prog.eqGuardType Tryd.prog.depth 99 = false := by kernel_rfl
theorem s100 : szT Tryd.prog 100 = some 1 := by kernel_rfl
theorem b100 : byT Tryd.prog 100 = some 8 := by kernel_rfl
theorem a100 : aggT Tryd.prog 100 = some false := by kernel_rfl
theorem z100 : zT Tryd.prog 100 = some (.int .u64 0) := by kernel_rfl
theorem g101 : Tryd.prog.eqGuardType Tryd.prog.depth 101 = false := by kernel_rfl
theorem s102 : szT Tryd.prog 102 = some 1 := by kernel_rfl
theorem b102 : byT Tryd.prog 102 = some 4 := by kernel_rfl
theorem a102 : aggT Tryd.prog 102 = some false := by kernel_rfl
theorem z102 : zT Tryd.prog 102 = some (.int .u32 0) := by kernel_rfl
theorem g104 : Tryd.prog.eqGuardType Tryd.prog.depth 104 = false := by kernel_rfl
theorem s105 : szT Tryd.prog 105 = some 256 := by kernel_rfl
theorem b105 : byT Tryd.prog 105 = some 256 := by kernel_rfl
theorem a105 : aggT Tryd.prog 105 = some true := by kernel_rfl
theorem g105 : Tryd.prog.eqGuardType Tryd.prog.depth 105 = false := by kernel_rfl
theorem h105 : Tryd.prog.stoodInHeld 105 = false := by kernel_rfl
theorem z105 : zT Tryd.prog 105 = some (.agg [.int .u8 0, .int .u8 0, .int .u8 0, .int .u8 0, .int .u8 0, .int .u8 0, .int .u8 0, .int .u8 0, .int .u8 0, .int .u8 0, .int .u8 0, .int .u8 0, .int .u8 0, .int .u8 0, .int .u8 0, .int .u8 0, .int .u8 0, .int .u8 0, .int .u8 0, .int .u8 0, .int .u8 0, .int .u8 0, .int .u8 0, .int .u8 0, .int .u8 0, .int .u8 0, .int .u8 0, .int .u8 0, .int .u8 0, .int .u8 0, .int .u8 0, .int .u8 0, .int .u8 0, .int .u8 0, .int .u8 0, .int .u8 0, .int .u8 0, .int .u8 0, .int .u8 0, .int .u8 0, .int .u8 0, .int .u8 0, .int .u8 0, .int .u8 0, .int .u8 0, .int .u8 0, .int .u8 0, .int .u8 0, .int .u8 0, .int .u8 0, .int .u8 0, .int .u8 0, .int .u8 0, .int .u8 0, .int .u8 0, .int .u8 0, .int .u8 0, .int .u8 0, .int .u8 0, .int .u8 0, .int .u8 0, .int .u8 0, .int .u8 0, .int .u8 0, .int .u8 0, .int .u8 0, .int .u8 0, .int .u8 0, .int .u8 0, .int .u8 0, .int .u8 0, .int .u8 0, .int .u8 0, .int .u8 0, .int .u8 0, .int .u8 0, .int .u8 0, .int .u8 0, .int .u8 0, .int .u8 0, .int .u8 0, .int .u8 0, .int .u8 0, .int .u8 0, .int .u8 0, .int .u8 0, .int .u8 0, .int .u8 0, .int .u8 0, .int .u8 0, .int .u8 0, .int .u8 0, .int .u8 0, .int .u8 0, .int .u8 0, .int .u8 0, .int .u8 0, .int .u8 0, .int .u8 0, .int .u8 0, .int .u8 0, .int .u8 0, .int .u8 0, .int .u8 0, .int .u8 0, .int .u8 0, .int .u8 0, .int .u8 0, .int .u8 0, .int .u8 0, .int .u8 0, .int .u8 0, .int .u8 0, .int .u8 0, .int .u8 0, .int .u8 0, .int .u8 0, .int .u8 0, .int .u8 0, .int .u8 0, .int .u8 0, .int .u8 0, .int .u8 0, .int .u8 0, .int .u8 0, .int .u8 0, .int .u8 0, .int .u8 0, .int .u8 0, .int .u8 0, .int .u8 0, .int .u8 0, .int .u8 0, .int .u8 0, .int .u8 0, .int .u8 0, .int .u8 0, .int .u8 0, .int .u8 0, .int .u8 0, .int .u8 0, .int .u8 0, .int .u8 0, .int .u8 0, .int .u8 0, .int .u8 0, .int .u8 0, .int .u8 0, .int .u8 0, .int .u8 0, .int .u8 0, .int .u8 0, .int .u8 0, .int .u8 0, .int .u8 0, .int .u8 0, .int .u8 0, .int .u8 0, .int .u8 0, .int .u8 0, .int .u8 0, .int .u8 0, .int .u8 0, .int .u8 0, .int .u8 0, .int .u8 0, .int .u8 0, .int .u8 0, .int .u8 0, .int .u8 0, .int .u8 0, .int .u8 0, .int .u8 0, .int .u8 0, .int .u8 0, .int .u8 0, .int .u8 0, .int .u8 0, .int .u8 0, .int .u8 0, .int .u8 0, .int .u8 0, .int .u8 0, .int .u8 0, .int .u8 0, .int .u8 0, .int .u8 0, .int .u8 0, .int .u8 0, .int .u8 0, .int .u8 0, .int .u8 0, .int .u8 0, .int .u8 0, .int .u8 0, .int .u8 0, .int .u8 0, .int .u8 0, .int .u8 0, .int .u8 0, .int .u8 0, .int .u8 0, .int .u8 0, .int .u8 0, .int .u8 0, .int .u8 0, .int .u8 0, .int .u8 0, .int .u8 0, .int .u8 0, .int .u8 0, .int .u8 0, .int .u8 0, .int .u8 0, .int .u8 0, .int .u8 0, .int .u8 0, .int .u8 0, .int .u8 0, .int .u8 0, .int .u8 0, .int .u8 0, .int .u8 0, .int .u8 0, .int .u8 0, .int .u8 0, .int .u8 0, .int .u8 0, .int .u8 0, .int .u8 0, .int .u8 0, .int .u8 0, .int .u8 0, .int .u8 0, .int .u8 0, .int .u8 0, .int .u8 0, .int .u8 0, .int .u8 0, .int .u8 0, .int .u8 0, .int .u8 0, .int .u8 0, .int .u8 0, .int .u8 0, .int .u8 0, .int .u8 0, .int .u8 0, .int .u8 0, .int .u8 0, .int .u8 0, .int .u8 0, .int .u8 0, .int .u8 0, .int .u8 0, .int .u8 0]) := by kernel_rfl
theorem s106 : szT Tryd.prog 106 = some 2 := by kernel_rfl
theorem b106 : byT Tryd.prog 106 = some 2 := by kernel_rfl
theorem a106 : aggT Tryd.prog 106 = some true := by kernel_rfl
theorem g106 : Tryd.prog.eqGuardType Tryd.prog.depth 106 = false := by kernel_rfl
theorem h106 : Tryd.prog.stoodInHeld 106 = false := by kernel_rfl
theorem z106 : zT Tryd.prog 106 = some (.agg [.int .u8 0, .int .u8 0]) := by kernel_rfl
theorem s107 : szT Tryd.prog 107 = some 2 := by kernel_rfl
theorem b107 : byT Tryd.prog 107 = some 2 := by kernel_rfl
theorem a107 : aggT Tryd.prog 107 = some true := by kernel_rfl
theorem g107 : Tryd.prog.eqGuardType Tryd.prog.depth 107 = false := by kernel_rfl
theorem h107 : Tryd.prog.stoodInHeld 107 = false := by kernel_rfl
theorem z107 : zT Tryd.prog 107 = some (.agg [.int .u8 0, .int .u8 0]) := by kernel_rfl
theorem s108 : szT Tryd.prog 108 = some 32 := by kernel_rfl
theorem b108 : byT Tryd.prog 108 = some 32 := by kernel_rfl
theorem a108 : aggT Tryd.prog 108 = some true := by kernel_rfl
theorem g108 : Tryd.prog.eqGuardType Tryd.prog.depth 108 = false := by kernel_rfl
theorem h108 : Tryd.prog.stoodInHeld 108 = false := by kernel_rfl
theorem z108 : zT Tryd.prog 108 = some (.agg [.int .u8 0, .int .u8 0, .int .u8 0, .int .u8 0, .int .u8 0, .int .u8 0, .int .u8 0, .int .u8 0, .int .u8 0, .int .u8 0, .int .u8 0, .int .u8 0, .int .u8 0, .int .u8 0, .int .u8 0, .int .u8 0, .int .u8 0, .int .u8 0, .int .u8 0, .int .u8 0, .int .u8 0, .int .u8 0, .int .u8 0, .int .u8 0, .int .u8 0, .int .u8 0, .int .u8 0, .int .u8 0, .int .u8 0, .int .u8 0, .int .u8 0, .int .u8 0]) := by kernel_rfl
theorem g109 : Tryd.prog.eqGuardType Tryd.prog.depth 109 = false := by kernel_rfl
theorem s110 : szT Tryd.prog 110 = some 4 := by kernel_rfl
theorem b110 : byT Tryd.prog 110 = some 40 := by kernel_rfl
theorem a110 : aggT Tryd.prog 110 = some true := by kernel_rfl
theorem z110 : zT Tryd.prog 110 = some (.agg [.nilp, .nilp, .nilp, .str []]) := by kernel_rfl
theorem s111 : szT Tryd.prog 111 = some 4 := by kernel_rfl
theorem b111 : byT Tryd.prog 111 = some 40 := by kernel_rfl
theorem a111 : aggT Tryd.prog 111 = some true := by kernel_rfl
theorem z111 : zT Tryd.prog 111 = some (.agg [.nilp, .nilp, .nilp, .str []]) := by kernel_rfl
theorem s112 : szT Tryd.prog 112 = some 0 := by kernel_rfl
theorem b112 : byT Tryd.prog 112 = some 0 := by kernel_rfl
theorem a112 : aggT Tryd.prog 112 = some true := by kernel_rfl
theorem z112 : zT Tryd.prog 112 = some (.agg []) := by kernel_rfl
theorem s113 : szT Tryd.prog 113 = some 0 := by kernel_rfl
theorem b113 : byT Tryd.prog 113 = some 0 := by kernel_rfl
theorem a113 : aggT Tryd.prog 113 = some true := by kernel_rfl
theorem z113 : zT Tryd.prog 113 = some (.agg []) := by kernel_rfl
theorem s114 : szT Tryd.prog 114 = some 0 := by kernel_rfl
theorem b114 : byT Tryd.prog 114 = some 0 := by kernel_rfl
theorem a114 : aggT Tryd.prog 114 = some true := by kernel_rfl
theorem z114 : zT Tryd.prog 114 = some (.agg []) := by kernel_rfl
theorem g115 : Tryd.prog.eqGuardType Tryd.prog.depth 115 = false := by kernel_rfl
theorem s116 : szT Tryd.prog 116 = some 1 := by kernel_rfl
theorem b116 : byT Tryd.prog 116 = some 1 := by kernel_rfl
theorem a116 : aggT Tryd.prog 116 = some false := by kernel_rfl
theorem z116 : zT Tryd.prog 116 = some (.int .u8 0) := by kernel_rfl
theorem s117 : szT Tryd.prog 117 = some 1 := by kernel_rfl
theorem b117 : byT Tryd.prog 117 = some 1 := by kernel_rfl
theorem a117 : aggT Tryd.prog 117 = some false := by kernel_rfl
theorem z117 : zT Tryd.prog 117 = some (.int .u8 0) := by kernel_rfl
theorem g118 : Tryd.prog.eqGuardType Tryd.prog.depth 118 = false := by kernel_rfl
theorem g119 : Tryd.prog.eqGuardType Tryd.prog.depth 119 = false := by kernel_rfl
theorem s119 : szT Tryd.prog 119 = some 1 := by kernel_rfl
theorem b119 : byT Tryd.prog 119 = some 8 := by kernel_rfl
theorem a119 : aggT Tryd.prog 119 = some false := by kernel_rfl
theorem z119 : zT Tryd.prog 119 = some (.nilp) := by kernel_rfl
theorem s120 : szT Tryd.prog 120 = some 1 := by kernel_rfl
theorem b120 : byT Tryd.prog 120 = some 4 := by kernel_rfl
theorem a120 : aggT Tryd.prog 120 = some false := by kernel_rfl
theorem z120 : zT Tryd.prog 120 = some (.int .i32 0) := by kernel_rfl
theorem s121 : szT Tryd.prog 121 = some 1 := by kernel_rfl
theorem b121 : byT Tryd.prog 121 = some 4 := by kernel_rfl
theorem a121 : aggT Tryd.prog 121 = some false := by kernel_rfl
theorem z121 : zT Tryd.prog 121 = some (.int .i32 0) := by kernel_rfl
theorem s122 : szT Tryd.prog 122 = some 11 := by kernel_rfl
theorem b122 : byT Tryd.prog 122 = some 48 := by kernel_rfl
theorem a122 : aggT Tryd.prog 122 = some true := by kernel_rfl
theorem z122 : zT Tryd.prog 122 = some (.agg [.int .u64 0, .int .u64 0, .int .u32 0, .int .u8 0, .int .u8 0, .int .u8 0, .int .u8 0, .nilf, .nilp, .int .i32 0, .int .i32 0]) := by kernel_rfl
theorem s123 : szT Tryd.prog 123 = some 11 := by kernel_rfl
theorem b123 : byT Tryd.prog 123 = some 48 := by kernel_rfl
theorem a123 : aggT Tryd.prog 123 = some true := by kernel_rfl
theorem z123 : zT Tryd.prog 123 = some (.agg [.int .u64 0, .int .u64 0, .int .u32 0, .int .u8 0, .int .u8 0, .int .u8 0, .int .u8 0, .nilf, .nilp, .int .i32 0, .int .i32 0]) := by kernel_rfl
attribute [go_sem] g1 s2 b2 a2 z2 s3 b3 a3 z3 s4 b4 a4 z4 s5 b5 a5 z5 s6 b6 a6 z6 s7 b7 a7 g7 h7 z7 s8 b8 a8 g8 h8 z8 s9 b9 a9 z9 s10 b10 a10 z10 s11 b11 a11 z11 s12 b12 a12 z12 s13 b13 a13 z13 s14 b14 a14 z14 g15 s15 b15 a15 z15 g16 s16 b16 a16 z16 g17 s17 b17 a17 z17 s18 b18 a18 z18 s19 b19 a19 z19 s20 b20 a20 z20 s21 b21 a21 z21 g22 s22 b22 a22 z22 g23 g24 s25 b25 a25 z25 g27 g28 g29 g30 g31 s32 b32 a32 g32 h32 z32 s33 b33 a33 g33 h33 z33 g34 s34 b34 a34 z34 g35 g37 g38 g39 g40 g42 g43 g44 g45 g47 g48 g49 g50 g51 g52 g53 g55 g56 g57 g58 g59 g60 g61 g63 g64 g65 g66 g67 g68 g69 g70 s71 b71 a71 z71 g72 g73 g74 g75 g76 g77 g78 g79 s80 b80 a80 g80 h80 z80 s81 b81 a81 g81 h81 z81 g83 g84 g85 s85 b85 a85 z85 g86 g87 g88 g89 s90 b90 a90 g90 h90 z90 g91 s91 b91 a91 z91 g92 g94 g95 g96 g97 g98 g99 s100 b100 a100 z100 g101 s102 b102 a102 z102 g104 s105 b105 a105 g105 h105 z105 s106 b106 a106 g106 h106 z106 s107 b107 a107 g107 h107 z107 s108 b108 a108 g108 h108 z108 g109 s110 b110 a110 z110 s111 b111 a111 z111 s112 b112 a112 z112 s113 b113 a113 z113 s114 b114 a114 z114 g115 s116 b116 a116 z116 s117 b117 a117 z117 g118 g119 s119 b119 a119 z119 s120 b120 a120 z120 s121 b121 a121 z121 s122 b122 a122 z122 s123 b123 a123 z123 Tryd.underlying1 Tryd.underlying2 Tryd.underlying3 Tryd.underlying4 Tryd.underlying5 Tryd.underlying6 Tryd.underlying7 Tryd.underlying8 Tryd.underlying9 Tryd.underlying10 Tryd.underlying11 Tryd.underlying12 Tryd.underlying13 Tryd.underlying14 Tryd.underlying15 Tryd.underlying16 Tryd.underlying17 Tryd.underlying18 Tryd.underlying19 Tryd.underlying20 Tryd.underlying21 Tryd.underlying22 Tryd.underlying23 Tryd.underlying24 Tryd.underlying25 Tryd.underlying27 Tryd.underlying28 Tryd.underlying29 Tryd.underlying30 Tryd.underlying31 Tryd.underlying32 Tryd.underlying33 Tryd.underlying34 Tryd.underlying35 Tryd.underlying37 Tryd.underlying38 Tryd.underlying39 Tryd.underlying40 Tryd.underlying42 Tryd.underlying43 Tryd.underlying44 Tryd.underlying45 Tryd.underlying47 Tryd.underlying48 Tryd.underlying49 Tryd.underlying50 Tryd.underlying51 Tryd.underlying52 Tryd.underlying53 Tryd.underlying55 Tryd.underlying56 Tryd.underlying57 Tryd.underlying58 Tryd.underlying59 Tryd.underlying60 Tryd.underlying61 Tryd.underlying63 Tryd.underlying64 Tryd.underlying65 Tryd.underlying66 Tryd.underlying67 Tryd.underlying68 Tryd.underlying69 Tryd.underlying70 Tryd.underlying71 Tryd.underlying72 Tryd.underlying73 Tryd.underlying74 Tryd.underlying75 Tryd.underlying76 Tryd.underlying77 Tryd.underlying78 Tryd.underlying79 Tryd.underlying80 Tryd.underlying81 Tryd.underlying83 Tryd.underlying84 Tryd.underlying85 Tryd.underlying86 Tryd.underlying87 Tryd.underlying88 Tryd.underlying89 Tryd.underlying90 Tryd.underlying91 Tryd.underlying92 Tryd.underlying94 Tryd.underlying95 Tryd.underlying96 Tryd.underlying97 Tryd.underlying98 Tryd.underlying99 Tryd.underlying100 Tryd.underlying101 Tryd.underlying102 Tryd.underlying104 Tryd.underlying105 Tryd.underlying106 Tryd.underlying107 Tryd.underlying108 Tryd.underlying109 Tryd.underlying110 Tryd.underlying111 Tryd.underlying112 Tryd.underlying113 Tryd.underlying114 Tryd.underlying115 Tryd.underlying116 Tryd.underlying117 Tryd.underlying118 Tryd.underlying119 Tryd.underlying120 Tryd.underlying121 Tryd.underlying122 Tryd.underlying123
end Go.Proofs.Tryd.Ty
