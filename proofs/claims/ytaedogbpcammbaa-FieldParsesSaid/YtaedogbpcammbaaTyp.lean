/- Facts about the seat's types. No condition. -/
import Derived.Test.YtaedogbpcammbaaAbsT
import Derived.Test.YtaedogbpcammbaaProg
import Derived.KernelRfl
set_option linter.unusedVariables false
namespace Go.Proofs.Try.Ty
open Go Go.Abs Go.Proofs

theorem mixed : Try.prog.follows .mixedOrders = true := by kernel_rfl
theorem g1 : Try.prog.eqGuardType Try.prog.depth 1 = false := by kernel_rfl
theorem s2 : szT Try.prog 2 = some 1 := by kernel_rfl
theorem b2 : byT Try.prog 2 = some 8 := by kernel_rfl
theorem a2 : aggT Try.prog 2 = some false := by kernel_rfl
theorem z2 : zT Try.prog 2 = some (.int .i64 0) := by kernel_rfl
theorem s3 : szT Try.prog 3 = some 1 := by kernel_rfl
theorem b3 : byT Try.prog 3 = some 8 := by kernel_rfl
theorem a3 : aggT Try.prog 3 = some false := by kernel_rfl
theorem z3 : zT Try.prog 3 = some (.int .i64 0) := by kernel_rfl
theorem s4 : szT Try.prog 4 = some 1 := by kernel_rfl
theorem b4 : byT Try.prog 4 = some 1 := by kernel_rfl
theorem a4 : aggT Try.prog 4 = some false := by kernel_rfl
theorem z4 : zT Try.prog 4 = some (.bool false) := by kernel_rfl
theorem s5 : szT Try.prog 5 = some 1 := by kernel_rfl
theorem b5 : byT Try.prog 5 = some 1 := by kernel_rfl
theorem a5 : aggT Try.prog 5 = some false := by kernel_rfl
theorem z5 : zT Try.prog 5 = some (.int .u8 0) := by kernel_rfl
theorem s6 : szT Try.prog 6 = some 1 := by kernel_rfl
theorem b6 : byT Try.prog 6 = some 1 := by kernel_rfl
theorem a6 : aggT Try.prog 6 = some false := by kernel_rfl
theorem z6 : zT Try.prog 6 = some (.int .u8 0) := by kernel_rfl
theorem s7 : szT Try.prog 7 = some 4 := by kernel_rfl
theorem b7 : byT Try.prog 7 = some 24 := by kernel_rfl
theorem a7 : aggT Try.prog 7 = some true := by kernel_rfl
theorem g7 : Try.prog.eqGuardType Try.prog.depth 7 = false := by kernel_rfl
theorem h7 : Try.prog.stoodInHeld 7 = false := by kernel_rfl
theorem z7 : zT Try.prog 7 = some (.agg [.int .i64 0, .int .i64 0, .bool false, .int .u8 0]) := by kernel_rfl
theorem s8 : szT Try.prog 8 = some 4 := by kernel_rfl
theorem b8 : byT Try.prog 8 = some 24 := by kernel_rfl
theorem a8 : aggT Try.prog 8 = some true := by kernel_rfl
theorem g8 : Try.prog.eqGuardType Try.prog.depth 8 = false := by kernel_rfl
theorem h8 : Try.prog.stoodInHeld 8 = false := by kernel_rfl
theorem z8 : zT Try.prog 8 = some (.agg [.int .i64 0, .int .i64 0, .bool false, .int .u8 0]) := by kernel_rfl
theorem s9 : szT Try.prog 9 = some 1 := by kernel_rfl
theorem b9 : byT Try.prog 9 = some 16 := by kernel_rfl
theorem a9 : aggT Try.prog 9 = some false := by kernel_rfl
theorem z9 : zT Try.prog 9 = some (.str []) := by kernel_rfl
theorem s10 : szT Try.prog 10 = some 1 := by kernel_rfl
theorem b10 : byT Try.prog 10 = some 16 := by kernel_rfl
theorem a10 : aggT Try.prog 10 = some false := by kernel_rfl
theorem z10 : zT Try.prog 10 = some (.str []) := by kernel_rfl
theorem s11 : szT Try.prog 11 = some 1 := by kernel_rfl
theorem b11 : byT Try.prog 11 = some 16 := by kernel_rfl
theorem a11 : aggT Try.prog 11 = some false := by kernel_rfl
theorem z11 : zT Try.prog 11 = some (.str []) := by kernel_rfl
theorem s12 : szT Try.prog 12 = some 1 := by kernel_rfl
theorem b12 : byT Try.prog 12 = some 8 := by kernel_rfl
theorem a12 : aggT Try.prog 12 = some false := by kernel_rfl
theorem z12 : zT Try.prog 12 = some (.int .u64 0) := by kernel_rfl
theorem s13 : szT Try.prog 13 = some 2 := by kernel_rfl
theorem b13 : byT Try.prog 13 = some 24 := by kernel_rfl
theorem a13 : aggT Try.prog 13 = some true := by kernel_rfl
theorem z13 : zT Try.prog 13 = some (.agg [.str [], .int .u64 0]) := by kernel_rfl
theorem s14 : szT Try.prog 14 = some 2 := by kernel_rfl
theorem b14 : byT Try.prog 14 = some 24 := by kernel_rfl
theorem a14 : aggT Try.prog 14 = some true := by kernel_rfl
theorem z14 : zT Try.prog 14 = some (.agg [.str [], .int .u64 0]) := by kernel_rfl
theorem g15 : Try.prog.eqGuardType Try.prog.depth 15 = false := by kernel_rfl
theorem s15 : szT Try.prog 15 = some 1 := by kernel_rfl
theorem b15 : byT Try.prog 15 = some 8 := by kernel_rfl
theorem a15 : aggT Try.prog 15 = some false := by kernel_rfl
theorem z15 : zT Try.prog 15 = some (.nilp) := by kernel_rfl
theorem g16 : Try.prog.eqGuardType Try.prog.depth 16 = false := by kernel_rfl
theorem s16 : szT Try.prog 16 = some 1 := by kernel_rfl
theorem b16 : byT Try.prog 16 = some 8 := by kernel_rfl
theorem a16 : aggT Try.prog 16 = some false := by kernel_rfl
theorem z16 : zT Try.prog 16 = some (.nilp) := by kernel_rfl
theorem g17 : Try.prog.eqGuardType Try.prog.depth 17 = false := by kernel_rfl
theorem s17 : szT Try.prog 17 = some 1 := by kernel_rfl
theorem b17 : byT Try.prog 17 = some 8 := by kernel_rfl
theorem a17 : aggT Try.prog 17 = some false := by kernel_rfl
theorem z17 : zT Try.prog 17 = some (.nilp) := by kernel_rfl
theorem s18 : szT Try.prog 18 = some 1 := by kernel_rfl
theorem b18 : byT Try.prog 18 = some 8 := by kernel_rfl
theorem a18 : aggT Try.prog 18 = some true := by kernel_rfl
theorem z18 : zT Try.prog 18 = some (.agg [.nilp]) := by kernel_rfl
theorem s19 : szT Try.prog 19 = some 1 := by kernel_rfl
theorem b19 : byT Try.prog 19 = some 8 := by kernel_rfl
theorem a19 : aggT Try.prog 19 = some true := by kernel_rfl
theorem z19 : zT Try.prog 19 = some (.agg [.nilp]) := by kernel_rfl
theorem s20 : szT Try.prog 20 = some 1 := by kernel_rfl
theorem b20 : byT Try.prog 20 = some 16 := by kernel_rfl
theorem a20 : aggT Try.prog 20 = some false := by kernel_rfl
theorem z20 : zT Try.prog 20 = some (.nili) := by kernel_rfl
theorem s21 : szT Try.prog 21 = some 1 := by kernel_rfl
theorem b21 : byT Try.prog 21 = some 4 := by kernel_rfl
theorem a21 : aggT Try.prog 21 = some false := by kernel_rfl
theorem z21 : zT Try.prog 21 = some (.int .i32 0) := by kernel_rfl
theorem s22 : szT Try.prog 22 = some 2 := by kernel_rfl
theorem b22 : byT Try.prog 22 = some 32 := by kernel_rfl
theorem a22 : aggT Try.prog 22 = some true := by kernel_rfl
theorem g22 : Try.prog.eqGuardType Try.prog.depth 22 = false := by kernel_rfl
theorem h22 : Try.prog.stoodInHeld 22 = false := by kernel_rfl
theorem z22 : zT Try.prog 22 = some (.agg [.str [], .str []]) := by kernel_rfl
theorem s23 : szT Try.prog 23 = some 2 := by kernel_rfl
theorem b23 : byT Try.prog 23 = some 32 := by kernel_rfl
theorem a23 : aggT Try.prog 23 = some true := by kernel_rfl
theorem g23 : Try.prog.eqGuardType Try.prog.depth 23 = false := by kernel_rfl
theorem h23 : Try.prog.stoodInHeld 23 = false := by kernel_rfl
theorem z23 : zT Try.prog 23 = some (.agg [.str [], .str []]) := by kernel_rfl
theorem s24 : szT Try.prog 24 = some 1 := by kernel_rfl
theorem b24 : byT Try.prog 24 = some 8 := by kernel_rfl
theorem a24 : aggT Try.prog 24 = some false := by kernel_rfl
theorem z24 : zT Try.prog 24 = some (.int .i64 0) := by kernel_rfl
theorem g26 : Try.prog.eqGuardType Try.prog.depth 26 = false := by kernel_rfl
theorem g27 : Try.prog.eqGuardType Try.prog.depth 27 = false := by kernel_rfl
theorem g28 : Try.prog.eqGuardType Try.prog.depth 28 = false := by kernel_rfl
theorem g29 : Try.prog.eqGuardType Try.prog.depth 29 = false := by kernel_rfl
theorem g30 : Try.prog.eqGuardType Try.prog.depth 30 = false := by kernel_rfl
theorem g31 : Try.prog.eqGuardType Try.prog.depth 31 = false := by kernel_rfl
theorem s31 : szT Try.prog 31 = some 1 := by kernel_rfl
theorem b31 : byT Try.prog 31 = some 24 := by kernel_rfl
theorem a31 : aggT Try.prog 31 = some false := by kernel_rfl
theorem z31 : zT Try.prog 31 = some (.nils) := by kernel_rfl
theorem g33 : Try.prog.eqGuardType Try.prog.depth 33 = false := by kernel_rfl
theorem g34 : Try.prog.eqGuardType Try.prog.depth 34 = false := by kernel_rfl
theorem g35 : Try.prog.eqGuardType Try.prog.depth 35 = false := by kernel_rfl
theorem g36 : Try.prog.eqGuardType Try.prog.depth 36 = false := by kernel_rfl
theorem g37 : Try.prog.eqGuardType Try.prog.depth 37 = false := by kernel_rfl
theorem g38 : Try.prog.eqGuardType Try.prog.depth 38 = false := by kernel_rfl
theorem g39 : Try.prog.eqGuardType Try.prog.depth 39 = false := by kernel_rfl
theorem g41 : Try.prog.eqGuardType Try.prog.depth 41 = false := by kernel_rfl
theorem g43 : Try.prog.eqGuardType Try.prog.depth 43 = false := by kernel_rfl
theorem g44 : Try.prog.eqGuardType Try.prog.depth 44 = false := by kernel_rfl
theorem g45 : Try.prog.eqGuardType Try.prog.depth 45 = false := by kernel_rfl
theorem g46 : Try.prog.eqGuardType Try.prog.depth 46 = false := by kernel_rfl
theorem g47 : Try.prog.eqGuardType Try.prog.depth 47 = false := by kernel_rfl
theorem s47 : szT Try.prog 47 = some 1 := by kernel_rfl
theorem b47 : byT Try.prog 47 = some 24 := by kernel_rfl
theorem a47 : aggT Try.prog 47 = some false := by kernel_rfl
theorem z47 : zT Try.prog 47 = some (.nils) := by kernel_rfl
theorem g49 : Try.prog.eqGuardType Try.prog.depth 49 = false := by kernel_rfl
theorem g50 : Try.prog.eqGuardType Try.prog.depth 50 = false := by kernel_rfl
theorem g51 : Try.prog.eqGuardType Try.prog.depth 51 = false := by kernel_rfl
theorem g52 : Try.prog.eqGuardType Try.prog.depth 52 = false := by kernel_rfl
theorem g53 : Try.prog.eqGuardType Try.prog.depth 53 = false := by kernel_rfl
theorem g54 : Try.prog.eqGuardType Try.prog.depth 54 = false := by kernel_rfl
theorem s55 : szT Try.prog 55 = some 2 := by kernel_rfl
theorem b55 : byT Try.prog 55 = some 32 := by kernel_rfl
theorem a55 : aggT Try.prog 55 = some true := by kernel_rfl
theorem g55 : Try.prog.eqGuardType Try.prog.depth 55 = false := by kernel_rfl
theorem h55 : Try.prog.stoodInHeld 55 = false := by kernel_rfl
theorem z55 : zT Try.prog 55 = some (.agg [.str [], .str []]) := by kernel_rfl
theorem g56 : Try.prog.eqGuardType Try.prog.depth 56 = false := by kernel_rfl
theorem g58 : Try.prog.eqGuardType Try.prog.depth 58 = false := by kernel_rfl
theorem g59 : Try.prog.eqGuardType Try.prog.depth 59 = false := by kernel_rfl
theorem g61 : Try.prog.eqGuardType Try.prog.depth 61 = false := by kernel_rfl
theorem g62 : Try.prog.eqGuardType Try.prog.depth 62 = false := by kernel_rfl
theorem g63 : Try.prog.eqGuardType Try.prog.depth 63 = false := by kernel_rfl
theorem g64 : Try.prog.eqGuardType Try.prog.depth 64 = false := by kernel_rfl
theorem g65 : Try.prog.eqGuardType Try.prog.depth 65 = false := by kernel_rfl
theorem g66 : Try.prog.eqGuardType Try.prog.depth 66 = false := by kernel_rfl
theorem g67 : Try.prog.eqGuardType Try.prog.depth 67 = false := by kernel_rfl
theorem g68 : Try.prog.eqGuardType Try.prog.depth 68 = false := by kernel_rfl
theorem g69 : Try.prog.eqGuardType Try.prog.depth 69 = false := by kernel_rfl
theorem g70 : Try.prog.eqGuardType Try.prog.depth 70 = false := by kernel_rfl
theorem g71 : Try.prog.eqGuardType Try.prog.depth 71 = false := by kernel_rfl
theorem s71 : szT Try.prog 71 = some 1 := by kernel_rfl
theorem b71 : byT Try.prog 71 = some 24 := by kernel_rfl
theorem a71 : aggT Try.prog 71 = some false := by kernel_rfl
theorem z71 : zT Try.prog 71 = some (.nils) := by kernel_rfl
theorem g72 : Try.prog.eqGuardType Try.prog.depth 72 = false := by kernel_rfl
theorem s72 : szT Try.prog 72 = some 1 := by kernel_rfl
theorem b72 : byT Try.prog 72 = some 8 := by kernel_rfl
theorem a72 : aggT Try.prog 72 = some false := by kernel_rfl
theorem z72 : zT Try.prog 72 = some (.nilp) := by kernel_rfl
theorem g73 : Try.prog.eqGuardType Try.prog.depth 73 = false := by kernel_rfl
theorem g74 : Try.prog.eqGuardType Try.prog.depth 74 = false := by kernel_rfl
theorem g75 : Try.prog.eqGuardType Try.prog.depth 75 = false := by kernel_rfl
theorem g76 : Try.prog.eqGuardType Try.prog.depth 76 = false := by kernel_rfl
theorem g77 : Try.prog.eqGuardType Try.prog.depth 77 = false := by kernel_rfl
theorem g79 : Try.prog.eqGuardType Try.prog.depth 79 = false := by kernel_rfl
theorem g80 : Try.prog.eqGuardType Try.prog.depth 80 = false := by kernel_rfl
theorem s81 : szT Try.prog 81 = some 1 := by kernel_rfl
theorem b81 : byT Try.prog 81 = some 8 := by kernel_rfl
theorem a81 : aggT Try.prog 81 = some false := by kernel_rfl
theorem z81 : zT Try.prog 81 = some (.int .u64 0) := by kernel_rfl
theorem g82 : Try.prog.eqGuardType Try.prog.depth 82 = false := by kernel_rfl
theorem g83 : Try.prog.eqGuardType Try.prog.depth 83 = false := by kernel_rfl
theorem g84 : Try.prog.eqGuardType Try.prog.depth 84 = false := by kernel_rfl
theorem s85 : szT Try.prog 85 = some 3 := by kernel_rfl
theorem b85 : byT Try.prog 85 = some 16 := by kernel_rfl
theorem a85 : aggT Try.prog 85 = some true := by kernel_rfl
theorem g85 : Try.prog.eqGuardType Try.prog.depth 85 = false := by kernel_rfl
theorem h85 : Try.prog.stoodInHeld 85 = false := by kernel_rfl
theorem z85 : zT Try.prog 85 = some (.agg [.bool false, .bool false, .int .i64 0]) := by kernel_rfl
theorem s86 : szT Try.prog 86 = some 3 := by kernel_rfl
theorem b86 : byT Try.prog 86 = some 16 := by kernel_rfl
theorem a86 : aggT Try.prog 86 = some true := by kernel_rfl
theorem g86 : Try.prog.eqGuardType Try.prog.depth 86 = false := by kernel_rfl
theorem h86 : Try.prog.stoodInHeld 86 = false := by kernel_rfl
theorem z86 : zT Try.prog 86 = some (.agg [.bool false, .bool false, .int .i64 0]) := by kernel_rfl
theorem g87 : Try.prog.eqGuardType Try.prog.depth 87 = false := by kernel_rfl
theorem g88 : Try.prog.eqGuardType Try.prog.depth 88 = false := by kernel_rfl
theorem g89 : Try.prog.eqGuardType Try.prog.depth 89 = false := by kernel_rfl
theorem g90 : Try.prog.eqGuardType Try.prog.depth 90 = false := by kernel_rfl
theorem s90 : szT Try.prog 90 = some 1 := by kernel_rfl
theorem b90 : byT Try.prog 90 = some 8 := by kernel_rfl
theorem a90 : aggT Try.prog 90 = some false := by kernel_rfl
theorem z90 : zT Try.prog 90 = some (.nilp) := by kernel_rfl
theorem s91 : szT Try.prog 91 = some 2 := by kernel_rfl
theorem b91 : byT Try.prog 91 = some 32 := by kernel_rfl
theorem a91 : aggT Try.prog 91 = some true := by kernel_rfl
theorem z91 : zT Try.prog 91 = some (.agg [.nilp, .nils]) := by kernel_rfl
theorem s92 : szT Try.prog 92 = some 2 := by kernel_rfl
theorem b92 : byT Try.prog 92 = some 32 := by kernel_rfl
theorem a92 : aggT Try.prog 92 = some true := by kernel_rfl
theorem z92 : zT Try.prog 92 = some (.agg [.nilp, .nils]) := by kernel_rfl
theorem g93 : Try.prog.eqGuardType Try.prog.depth 93 = false := by kernel_rfl
theorem s94 : szT Try.prog 94 = some 1 := by kernel_rfl
theorem b94 : byT Try.prog 94 = some 16 := by kernel_rfl
theorem a94 : aggT Try.prog 94 = some false := by kernel_rfl
theorem z94 : zT Try.prog 94 = some (.nili) := by kernel_rfl
theorem s95 : szT Try.prog 95 = some 1 := by kernel_rfl
theorem b95 : byT Try.prog 95 = some 16 := by kernel_rfl
theorem a95 : aggT Try.prog 95 = some false := by kernel_rfl
theorem z95 : zT Try.prog 95 = some (.nili) := by kernel_rfl
theorem g97 : Try.prog.eqGuardType Try.prog.depth 97 = false := by kernel_rfl
theorem g98 : Try.prog.eqGuardType Try.prog.depth 98 = false := by kernel_rfl
theorem g99 : Try.prog.eqGuardType Try.prog.depth 99 = false := by kernel_rfl
theorem g100 : Try.prog.eqGuardType Try.prog.depth 100 = false := by kernel_rfl
theorem s101 : szT Try.prog 101 = some 2 := by kernel_rfl
theorem b101 : byT Try.prog 101 = some 24 := by kernel_rfl
theorem a101 : aggT Try.prog 101 = some true := by kernel_rfl
theorem g101 : Try.prog.eqGuardType Try.prog.depth 101 = false := by kernel_rfl
theorem h101 : Try.prog.stoodInHeld 101 = false := by kernel_rfl
theorem z101 : zT Try.prog 101 = some (.agg [.str [], .int .i64 0]) := by kernel_rfl
theorem s102 : szT Try.prog 102 = some 2 := by kernel_rfl
theorem b102 : byT Try.prog 102 = some 24 := by kernel_rfl
theorem a102 : aggT Try.prog 102 = some true := by kernel_rfl
theorem g102 : Try.prog.eqGuardType Try.prog.depth 102 = false := by kernel_rfl
theorem h102 : Try.prog.stoodInHeld 102 = false := by kernel_rfl
theorem z102 : zT Try.prog 102 = some (.agg [.str [], .int .i64 0]) := by kernel_rfl
theorem g103 : Try.prog.eqGuardType Try.prog.depth 103 = false := by kernel_rfl
theorem g104 : Try.prog.eqGuardType Try.prog.depth 104 = false := by kernel_rfl
theorem g106 : Try.prog.eqGuardType Try.prog.depth 106 = false := by kernel_rfl
theorem g107 : Try.prog.eqGuardType Try.prog.depth 107 = false := by kernel_rfl
theorem g108 : Try.prog.eqGuardType Try.prog.depth 108 = false := by kernel_rfl
theorem g109 : Try.prog.eqGuardType Try.prog.depth 109 = false := by kernel_rfl
theorem s109 : szT Try.prog 109 = some 1 := by kernel_rfl
theorem b109 : byT Try.prog 109 = some 8 := by kernel_rfl
theorem a109 : aggT Try.prog 109 = some false := by kernel_rfl
theorem z109 : zT Try.prog 109 = some (.nilp) := by kernel_rfl
theorem g110 : Try.prog.eqGuardType Try.prog.depth 110 = false := by kernel_rfl
theorem s110 : szT Try.prog 110 = some 1 := by kernel_rfl
theorem b110 : byT Try.prog 110 = some 8 := by kernel_rfl
theorem a110 : aggT Try.prog 110 = some false := by kernel_rfl
theorem z110 : zT Try.prog 110 = some (.nilp) := by kernel_rfl
theorem s111 : szT Try.prog 111 = some 64 := by kernel_rfl
theorem b111 : byT Try.prog 111 = some 64 := by kernel_rfl
theorem a111 : aggT Try.prog 111 = some true := by kernel_rfl
theorem g111 : Try.prog.eqGuardType Try.prog.depth 111 = false := by kernel_rfl
theorem h111 : Try.prog.stoodInHeld 111 = false := by kernel_rfl
theorem z111 : zT Try.prog 111 = some (.agg [.int .u8 0, .int .u8 0, .int .u8 0, .int .u8 0, .int .u8 0, .int .u8 0, .int .u8 0, .int .u8 0, .int .u8 0, .int .u8 0, .int .u8 0, .int .u8 0, .int .u8 0, .int .u8 0, .int .u8 0, .int .u8 0, .int .u8 0, .int .u8 0, .int .u8 0, .int .u8 0, .int .u8 0, .int .u8 0, .int .u8 0, .int .u8 0, .int .u8 0, .int .u8 0, .int .u8 0, .int .u8 0, .int .u8 0, .int .u8 0, .int .u8 0, .int .u8 0, .int .u8 0, .int .u8 0, .int .u8 0, .int .u8 0, .int .u8 0, .int .u8 0, .int .u8 0, .int .u8 0, .int .u8 0, .int .u8 0, .int .u8 0, .int .u8 0, .int .u8 0, .int .u8 0, .int .u8 0, .int .u8 0, .int .u8 0, .int .u8 0, .int .u8 0, .int .u8 0, .int .u8 0, .int .u8 0, .int .u8 0, .int .u8 0, .int .u8 0, .int .u8 0, .int .u8 0, .int .u8 0, .int .u8 0, .int .u8 0, .int .u8 0, .int .u8 0]) := by kernel_rfl
theorem s112 : szT Try.prog 112 = some 1 := by kernel_rfl
theorem b112 : byT Try.prog 112 = some 8 := by kernel_rfl
theorem a112 : aggT Try.prog 112 = some false := by kernel_rfl
theorem z112 : zT Try.prog 112 = some (.int .u64 0) := by kernel_rfl
theorem g114 : Try.prog.eqGuardType Try.prog.depth 114 = false := by kernel_rfl
theorem g115 : Try.prog.eqGuardType Try.prog.depth 115 = false := by kernel_rfl
theorem g117 : Try.prog.eqGuardType Try.prog.depth 117 = false := by kernel_rfl
theorem g118 : Try.prog.eqGuardType Try.prog.depth 118 = false := by kernel_rfl
theorem s119 : szT Try.prog 119 = some 1 := by kernel_rfl
theorem b119 : byT Try.prog 119 = some 4 := by kernel_rfl
theorem a119 : aggT Try.prog 119 = some false := by kernel_rfl
theorem z119 : zT Try.prog 119 = some (.int .u32 0) := by kernel_rfl
theorem g121 : Try.prog.eqGuardType Try.prog.depth 121 = false := by kernel_rfl
theorem g123 : Try.prog.eqGuardType Try.prog.depth 123 = false := by kernel_rfl
theorem g124 : Try.prog.eqGuardType Try.prog.depth 124 = false := by kernel_rfl
theorem s125 : szT Try.prog 125 = some 4 := by kernel_rfl
theorem b125 : byT Try.prog 125 = some 40 := by kernel_rfl
theorem a125 : aggT Try.prog 125 = some true := by kernel_rfl
theorem z125 : zT Try.prog 125 = some (.agg [.nilp, .nilp, .nilp, .str []]) := by kernel_rfl
theorem s126 : szT Try.prog 126 = some 4 := by kernel_rfl
theorem b126 : byT Try.prog 126 = some 40 := by kernel_rfl
theorem a126 : aggT Try.prog 126 = some true := by kernel_rfl
theorem z126 : zT Try.prog 126 = some (.agg [.nilp, .nilp, .nilp, .str []]) := by kernel_rfl
theorem s127 : szT Try.prog 127 = some 0 := by kernel_rfl
theorem b127 : byT Try.prog 127 = some 0 := by kernel_rfl
theorem a127 : aggT Try.prog 127 = some true := by kernel_rfl
theorem z127 : zT Try.prog 127 = some (.agg []) := by kernel_rfl
theorem s128 : szT Try.prog 128 = some 0 := by kernel_rfl
theorem b128 : byT Try.prog 128 = some 0 := by kernel_rfl
theorem a128 : aggT Try.prog 128 = some true := by kernel_rfl
theorem z128 : zT Try.prog 128 = some (.agg []) := by kernel_rfl
theorem s129 : szT Try.prog 129 = some 0 := by kernel_rfl
theorem b129 : byT Try.prog 129 = some 0 := by kernel_rfl
theorem a129 : aggT Try.prog 129 = some true := by kernel_rfl
theorem z129 : zT Try.prog 129 = some (.agg []) := by kernel_rfl
theorem s130 : szT Try.prog 130 = some 1 := by kernel_rfl
theorem b130 : byT Try.prog 130 = some 1 := by kernel_rfl
theorem a130 : aggT Try.prog 130 = some false := by kernel_rfl
theorem z130 : zT Try.prog 130 = some (.int .u8 0) := by kernel_rfl
theorem s131 : szT Try.prog 131 = some 1 := by kernel_rfl
theorem b131 : byT Try.prog 131 = some 1 := by kernel_rfl
theorem a131 : aggT Try.prog 131 = some false := by kernel_rfl
theorem z131 : zT Try.prog 131 = some (.int .u8 0) := by kernel_rfl
theorem g132 : Try.prog.eqGuardType Try.prog.depth 132 = false := by kernel_rfl
theorem s133 : szT Try.prog 133 = some 1 := by kernel_rfl
theorem b133 : byT Try.prog 133 = some 4 := by kernel_rfl
theorem a133 : aggT Try.prog 133 = some false := by kernel_rfl
theorem z133 : zT Try.prog 133 = some (.int .i32 0) := by kernel_rfl
theorem s134 : szT Try.prog 134 = some 1 := by kernel_rfl
theorem b134 : byT Try.prog 134 = some 4 := by kernel_rfl
theorem a134 : aggT Try.prog 134 = some false := by kernel_rfl
theorem z134 : zT Try.prog 134 = some (.int .i32 0) := by kernel_rfl
theorem s135 : szT Try.prog 135 = some 11 := by kernel_rfl
theorem b135 : byT Try.prog 135 = some 48 := by kernel_rfl
theorem a135 : aggT Try.prog 135 = some true := by kernel_rfl
theorem z135 : zT Try.prog 135 = some (.agg [.int .u64 0, .int .u64 0, .int .u32 0, .int .u8 0, .int .u8 0, .int .u8 0, .int .u8 0, .nilf, .nilp, .int .i32 0, .int .i32 0]) := by kernel_rfl
theorem s136 : szT Try.prog 136 = some 11 := by kernel_rfl
theorem b136 : byT Try.prog 136 = some 48 := by kernel_rfl
theorem a136 : aggT Try.prog 136 = some true := by kernel_rfl
theorem z136 : zT Try.prog 136 = some (.agg [.int .u64 0, .int .u64 0, .int .u32 0, .int .u8 0, .int .u8 0, .int .u8 0, .int .u8 0, .nilf, .nilp, .int .i32 0, .int .i32 0]) := by kernel_rfl
end Go.Proofs.Try.Ty
