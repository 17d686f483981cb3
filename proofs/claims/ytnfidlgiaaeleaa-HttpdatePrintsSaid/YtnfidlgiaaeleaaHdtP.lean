/- httpdate: the parts of the reader. No condition beyond those that a machine's numbers bring. -/
import Derived.Test.YtnfidlgiaaeleaaHdt
import Derived.Test.YtnfidlgiaaeleaaSlcM
import Derived.Test.YtnfidlgiaaeleaaDig
import Derived.Test.YtnfidlgiaaeleaaLibS
set_option linter.unusedVariables false
set_option linter.unusedSimpArgs false
namespace Go.Proofs.Try.Hdt
open Go Go.Abs Go.Proofs Go.Mdl

def T_specPartW3 : Tbl := fun g E args => (addT (addT (addT (addT (addT nilT 101 Go.Proofs.Try.Hdt.tb_specWord) 102 Go.Proofs.Try.Hdt.tb_specNum) 52 Go.Proofs.Try.Hdt.tb_specDaysH) 54 Go.Proofs.Try.Hdt.tb_specMonthsH) 103 Go.Proofs.Try.Lib.tb_specHasPrefix) g E args
theorem T_specPartW3_ok : TblOK Try.prog T_specPartW3 := (addT_ok (addT_ok (addT_ok (addT_ok (addT_ok nilT_ok (by decide +kernel) Go.Proofs.Try.Hdt.tb_specWord_ok) (by decide +kernel) Go.Proofs.Try.Hdt.tb_specNum_ok) (by decide +kernel) Go.Proofs.Try.Hdt.tb_specDaysH_ok) (by decide +kernel) Go.Proofs.Try.Hdt.tb_specMonthsH_ok) (by decide +kernel) Go.Proofs.Try.Lib.tb_specHasPrefix_ok)
set_option maxRecDepth 100000 in
set_option maxHeartbeats 4000000 in
theorem specPartW3 (s : List UInt8) (y mo d h mi se week : Int) (two bad : Bool) (hs : s.length ≤ 1000000) : SpecE Try.prog 79 [.cells 10 false rz [.agg [.str s, .int .i64 y, .int .i64 mo, .int .i64 d, .int .i64 h, .int .i64 mi, .int .i64 se, .int .i64 week, .bool two, .bool bad]]] [.ptr 0 0 0 1, .int .i32 119] [.cells 10 false rz [.agg [.str (wdS hdDays3 s), .int .i64 y, .int .i64 mo, .int .i64 d, .int .i64 h, .int .i64 mi, .int .i64 se, .int .i64 (wdN hdDays3 s), .bool two, .bool (bad || wdB hdDays3 s)]]] (.tuple []) := by
  refine specFE (C := T_specPartW3) (wr := false) (D := fun _ => []) (U := fun _ => none) (E := [.cells 10 false rz [.agg [.str s, .int .i64 y, .int .i64 mo, .int .i64 d, .int .i64 h, .int .i64 mi, .int .i64 se, .int .i64 week, .bool two, .bool bad]]]) (E' := [.cells 10 false rz [.agg [.str (wdS hdDays3 s), .int .i64 y, .int .i64 mo, .int .i64 d, .int .i64 h, .int .i64 mi, .int .i64 se, .int .i64 (wdN hdDays3 s), .bool two, .bool (bad || wdB hdDays3 s)]]]) (res := []) [] Try.Ty.mixed T_specPartW3_ok Try.func79 (nE := 1) (nA := 2) (by decide +kernel) rfl rfl ?_
  simp only [Try.f79, bodyOf, rlOf]
  rw [W_V]
  simp (config := {maxSteps := 2000000}) only [T_specPartW3, Go.Proofs.Try.Hdt.tb_specWord, Go.Proofs.Try.Hdt.tb_specNum, Go.Proofs.Try.Hdt.tb_specDaysH, Go.Proofs.Try.Hdt.tb_specMonthsH, Go.Proofs.Try.Lib.tb_specHasPrefix, go_sem, reduceIte, Nat.reduceEqDiff, Nat.reduceAdd, Nat.reduceMul, Nat.reduceDiv, Nat.reduceMod, Nat.reduceSub, Nat.reduceBEq, Nat.reduceLT, Nat.reduceLeDiff, reduceCtorEq, Int.reduceNeg, Int.reduceEq, String.reduceEq, Int.reduceLT, Int.reduceLE, Int.reduceToNat, Int.reduceAdd, Int.reduceMul, Int.reduceSub, rz, hdDays, hdMonths, hdDays3]
  (try simp (config := {maxSteps := 2000000}) only [gimp, impB, isT, go_sem, reduceIte, Nat.reduceEqDiff, Nat.reduceAdd, Nat.reduceMul, Nat.reduceDiv, Nat.reduceMod, Nat.reduceSub, Nat.reduceBEq, Nat.reduceLT, Nat.reduceLeDiff, reduceCtorEq, Int.reduceNeg, Int.reduceEq, String.reduceEq, Int.reduceLT, Int.reduceLE, Int.reduceToNat, Int.reduceAdd, Int.reduceMul, Int.reduceSub])
  refine VL_N 8 ?_
  simp (config := {maxSteps := 4000000}) only [VN_succ, T_specPartW3, Go.Proofs.Try.Hdt.tb_specWord, Go.Proofs.Try.Hdt.tb_specNum, Go.Proofs.Try.Hdt.tb_specDaysH, Go.Proofs.Try.Hdt.tb_specMonthsH, Go.Proofs.Try.Lib.tb_specHasPrefix, go_sem, reduceIte, Nat.reduceEqDiff, Nat.reduceAdd, Nat.reduceMul, Nat.reduceDiv, Nat.reduceMod, Nat.reduceSub, Nat.reduceBEq, Nat.reduceLT, Nat.reduceLeDiff, reduceCtorEq, Int.reduceNeg, Int.reduceEq, String.reduceEq, Int.reduceLT, Int.reduceLE, Int.reduceToNat, Int.reduceAdd, Int.reduceMul, Int.reduceSub, rz, hdDays, hdMonths, hdDays3]
  exact hs

def T_specPartWL : Tbl := fun g E args => (addT (addT (addT (addT (addT nilT 101 Go.Proofs.Try.Hdt.tb_specWord) 102 Go.Proofs.Try.Hdt.tb_specNum) 52 Go.Proofs.Try.Hdt.tb_specDaysH) 54 Go.Proofs.Try.Hdt.tb_specMonthsH) 103 Go.Proofs.Try.Lib.tb_specHasPrefix) g E args
theorem T_specPartWL_ok : TblOK Try.prog T_specPartWL := (addT_ok (addT_ok (addT_ok (addT_ok (addT_ok nilT_ok (by decide +kernel) Go.Proofs.Try.Hdt.tb_specWord_ok) (by decide +kernel) Go.Proofs.Try.Hdt.tb_specNum_ok) (by decide +kernel) Go.Proofs.Try.Hdt.tb_specDaysH_ok) (by decide +kernel) Go.Proofs.Try.Hdt.tb_specMonthsH_ok) (by decide +kernel) Go.Proofs.Try.Lib.tb_specHasPrefix_ok)
set_option maxRecDepth 100000 in
set_option maxHeartbeats 4000000 in
theorem specPartWL (s : List UInt8) (y mo d h mi se week : Int) (two bad : Bool) (hs : s.length ≤ 1000000) : SpecE Try.prog 79 [.cells 10 false rz [.agg [.str s, .int .i64 y, .int .i64 mo, .int .i64 d, .int .i64 h, .int .i64 mi, .int .i64 se, .int .i64 week, .bool two, .bool bad]]] [.ptr 0 0 0 1, .int .i32 87] [.cells 10 false rz [.agg [.str (wdS hdDays s), .int .i64 y, .int .i64 mo, .int .i64 d, .int .i64 h, .int .i64 mi, .int .i64 se, .int .i64 (wdN hdDays s), .bool two, .bool (bad || wdB hdDays s)]]] (.tuple []) := by
  refine specFE (C := T_specPartWL) (wr := false) (D := fun _ => []) (U := fun _ => none) (E := [.cells 10 false rz [.agg [.str s, .int .i64 y, .int .i64 mo, .int .i64 d, .int .i64 h, .int .i64 mi, .int .i64 se, .int .i64 week, .bool two, .bool bad]]]) (E' := [.cells 10 false rz [.agg [.str (wdS hdDays s), .int .i64 y, .int .i64 mo, .int .i64 d, .int .i64 h, .int .i64 mi, .int .i64 se, .int .i64 (wdN hdDays s), .bool two, .bool (bad || wdB hdDays s)]]]) (res := []) [] Try.Ty.mixed T_specPartWL_ok Try.func79 (nE := 1) (nA := 2) (by decide +kernel) rfl rfl ?_
  simp only [Try.f79, bodyOf, rlOf]
  rw [W_V]
  simp (config := {maxSteps := 2000000}) only [T_specPartWL, Go.Proofs.Try.Hdt.tb_specWord, Go.Proofs.Try.Hdt.tb_specNum, Go.Proofs.Try.Hdt.tb_specDaysH, Go.Proofs.Try.Hdt.tb_specMonthsH, Go.Proofs.Try.Lib.tb_specHasPrefix, go_sem, reduceIte, Nat.reduceEqDiff, Nat.reduceAdd, Nat.reduceMul, Nat.reduceDiv, Nat.reduceMod, Nat.reduceSub, Nat.reduceBEq, Nat.reduceLT, Nat.reduceLeDiff, reduceCtorEq, Int.reduceNeg, Int.reduceEq, String.reduceEq, Int.reduceLT, Int.reduceLE, Int.reduceToNat, Int.reduceAdd, Int.reduceMul, Int.reduceSub, rz, hdDays, hdMonths, hdDays3]
  (try simp (config := {maxSteps := 2000000}) only [gimp, impB, isT, go_sem, reduceIte, Nat.reduceEqDiff, Nat.reduceAdd, Nat.reduceMul, Nat.reduceDiv, Nat.reduceMod, Nat.reduceSub, Nat.reduceBEq, Nat.reduceLT, Nat.reduceLeDiff, reduceCtorEq, Int.reduceNeg, Int.reduceEq, String.reduceEq, Int.reduceLT, Int.reduceLE, Int.reduceToNat, Int.reduceAdd, Int.reduceMul, Int.reduceSub])
  exact hs

def T_specPartD : Tbl := fun g E args => (addT (addT (addT (addT (addT nilT 101 Go.Proofs.Try.Hdt.tb_specWord) 102 Go.Proofs.Try.Hdt.tb_specNum) 52 Go.Proofs.Try.Hdt.tb_specDaysH) 54 Go.Proofs.Try.Hdt.tb_specMonthsH) 103 Go.Proofs.Try.Lib.tb_specHasPrefix) g E args
theorem T_specPartD_ok : TblOK Try.prog T_specPartD := (addT_ok (addT_ok (addT_ok (addT_ok (addT_ok nilT_ok (by decide +kernel) Go.Proofs.Try.Hdt.tb_specWord_ok) (by decide +kernel) Go.Proofs.Try.Hdt.tb_specNum_ok) (by decide +kernel) Go.Proofs.Try.Hdt.tb_specDaysH_ok) (by decide +kernel) Go.Proofs.Try.Hdt.tb_specMonthsH_ok) (by decide +kernel) Go.Proofs.Try.Lib.tb_specHasPrefix_ok)
set_option maxRecDepth 100000 in
set_option maxHeartbeats 4000000 in
theorem specPartD (s : List UInt8) (y mo d h mi se week : Int) (two bad : Bool) (hs : s.length ≤ 1000000) : SpecE Try.prog 79 [.cells 10 false rz [.agg [.str s, .int .i64 y, .int .i64 mo, .int .i64 d, .int .i64 h, .int .i64 mi, .int .i64 se, .int .i64 week, .bool two, .bool bad]]] [.ptr 0 0 0 1, .int .i32 100] [.cells 10 false rz [.agg [.str (nmS 2 s), .int .i64 y, .int .i64 mo, .int .i64 (nmN 2 s), .int .i64 h, .int .i64 mi, .int .i64 se, .int .i64 week, .bool two, .bool (bad || nmB 2 s)]]] (.tuple []) := by
  refine specFE (C := T_specPartD) (wr := false) (D := fun _ => []) (U := fun _ => none) (E := [.cells 10 false rz [.agg [.str s, .int .i64 y, .int .i64 mo, .int .i64 d, .int .i64 h, .int .i64 mi, .int .i64 se, .int .i64 week, .bool two, .bool bad]]]) (E' := [.cells 10 false rz [.agg [.str (nmS 2 s), .int .i64 y, .int .i64 mo, .int .i64 (nmN 2 s), .int .i64 h, .int .i64 mi, .int .i64 se, .int .i64 week, .bool two, .bool (bad || nmB 2 s)]]]) (res := []) [] Try.Ty.mixed T_specPartD_ok Try.func79 (nE := 1) (nA := 2) (by decide +kernel) rfl rfl ?_
  simp only [Try.f79, bodyOf, rlOf]
  rw [W_V]
  simp (config := {maxSteps := 2000000}) only [T_specPartD, Go.Proofs.Try.Hdt.tb_specWord, Go.Proofs.Try.Hdt.tb_specNum, Go.Proofs.Try.Hdt.tb_specDaysH, Go.Proofs.Try.Hdt.tb_specMonthsH, Go.Proofs.Try.Lib.tb_specHasPrefix, go_sem, reduceIte, Nat.reduceEqDiff, Nat.reduceAdd, Nat.reduceMul, Nat.reduceDiv, Nat.reduceMod, Nat.reduceSub, Nat.reduceBEq, Nat.reduceLT, Nat.reduceLeDiff, reduceCtorEq, Int.reduceNeg, Int.reduceEq, String.reduceEq, Int.reduceLT, Int.reduceLE, Int.reduceToNat, Int.reduceAdd, Int.reduceMul, Int.reduceSub, rz, hdDays, hdMonths, hdDays3]
  (try simp (config := {maxSteps := 2000000}) only [gimp, impB, isT, go_sem, reduceIte, Nat.reduceEqDiff, Nat.reduceAdd, Nat.reduceMul, Nat.reduceDiv, Nat.reduceMod, Nat.reduceSub, Nat.reduceBEq, Nat.reduceLT, Nat.reduceLeDiff, reduceCtorEq, Int.reduceNeg, Int.reduceEq, String.reduceEq, Int.reduceLT, Int.reduceLE, Int.reduceToNat, Int.reduceAdd, Int.reduceMul, Int.reduceSub])
  exact hs

def T_specPartB : Tbl := fun g E args => (addT (addT (addT (addT (addT nilT 101 Go.Proofs.Try.Hdt.tb_specWord) 102 Go.Proofs.Try.Hdt.tb_specNum) 52 Go.Proofs.Try.Hdt.tb_specDaysH) 54 Go.Proofs.Try.Hdt.tb_specMonthsH) 103 Go.Proofs.Try.Lib.tb_specHasPrefix) g E args
theorem T_specPartB_ok : TblOK Try.prog T_specPartB := (addT_ok (addT_ok (addT_ok (addT_ok (addT_ok nilT_ok (by decide +kernel) Go.Proofs.Try.Hdt.tb_specWord_ok) (by decide +kernel) Go.Proofs.Try.Hdt.tb_specNum_ok) (by decide +kernel) Go.Proofs.Try.Hdt.tb_specDaysH_ok) (by decide +kernel) Go.Proofs.Try.Hdt.tb_specMonthsH_ok) (by decide +kernel) Go.Proofs.Try.Lib.tb_specHasPrefix_ok)
set_option maxRecDepth 100000 in
set_option maxHeartbeats 4000000 in
theorem specPartB (s : List UInt8) (y mo d h mi se week : Int) (two bad : Bool) (hs : s.length ≤ 1000000) : SpecE Try.prog 79 [.cells 10 false rz [.agg [.str s, .int .i64 y, .int .i64 mo, .int .i64 d, .int .i64 h, .int .i64 mi, .int .i64 se, .int .i64 week, .bool two, .bool bad]]] [.ptr 0 0 0 1, .int .i32 98] [.cells 10 false rz [.agg [.str (nmS (blW s) (blS s)), .int .i64 y, .int .i64 mo, .int .i64 (nmN (blW s) (blS s)), .int .i64 h, .int .i64 mi, .int .i64 se, .int .i64 week, .bool two, .bool (bad || nmB (blW s) (blS s))]]] (.tuple []) := by
  refine specFE (C := T_specPartB) (wr := false) (D := fun _ => []) (U := fun _ => none) (E := [.cells 10 false rz [.agg [.str s, .int .i64 y, .int .i64 mo, .int .i64 d, .int .i64 h, .int .i64 mi, .int .i64 se, .int .i64 week, .bool two, .bool bad]]]) (E' := [.cells 10 false rz [.agg [.str (nmS (blW s) (blS s)), .int .i64 y, .int .i64 mo, .int .i64 (nmN (blW s) (blS s)), .int .i64 h, .int .i64 mi, .int .i64 se, .int .i64 week, .bool two, .bool (bad || nmB (blW s) (blS s))]]]) (res := []) [] Try.Ty.mixed T_specPartB_ok Try.func79 (nE := 1) (nA := 2) (by decide +kernel) rfl rfl ?_
  simp only [Try.f79, bodyOf, rlOf]
  rw [W_V]
  simp (config := {maxSteps := 2000000}) only [T_specPartB, Go.Proofs.Try.Hdt.tb_specWord, Go.Proofs.Try.Hdt.tb_specNum, Go.Proofs.Try.Hdt.tb_specDaysH, Go.Proofs.Try.Hdt.tb_specMonthsH, Go.Proofs.Try.Lib.tb_specHasPrefix, go_sem, reduceIte, Nat.reduceEqDiff, Nat.reduceAdd, Nat.reduceMul, Nat.reduceDiv, Nat.reduceMod, Nat.reduceSub, Nat.reduceBEq, Nat.reduceLT, Nat.reduceLeDiff, reduceCtorEq, Int.reduceNeg, Int.reduceEq, String.reduceEq, Int.reduceLT, Int.reduceLE, Int.reduceToNat, Int.reduceAdd, Int.reduceMul, Int.reduceSub, rz, hdDays, hdMonths, hdDays3]
  (try simp (config := {maxSteps := 2000000}) only [gimp, impB, isT, go_sem, reduceIte, Nat.reduceEqDiff, Nat.reduceAdd, Nat.reduceMul, Nat.reduceDiv, Nat.reduceMod, Nat.reduceSub, Nat.reduceBEq, Nat.reduceLT, Nat.reduceLeDiff, reduceCtorEq, Int.reduceNeg, Int.reduceEq, String.reduceEq, Int.reduceLT, Int.reduceLE, Int.reduceToNat, Int.reduceAdd, Int.reduceMul, Int.reduceSub])
  have h7 : (s.drop 1).length ≤ s.length := by simp
  refine ⟨fun h => ?_, fun h => ?_⟩
  · have e1 : blW s = 1 := by rw [blW, if_pos h]
    have e2 : blS s = s.drop 1 := by rw [blS, if_pos h]
    have := prefix_len h
    rw [e1, e2]
    exact ⟨by simp at this; omega, by omega, rfl, rfl⟩
  · have e1 : blW s = 2 := by rw [blW, h]; rfl
    have e2 : blS s = s := by rw [blS, h]; rfl
    rw [e1, e2]
    exact ⟨hs, rfl, rfl⟩

def T_specPartM : Tbl := fun g E args => (addT (addT (addT (addT (addT nilT 101 Go.Proofs.Try.Hdt.tb_specWord) 102 Go.Proofs.Try.Hdt.tb_specNum) 52 Go.Proofs.Try.Hdt.tb_specDaysH) 54 Go.Proofs.Try.Hdt.tb_specMonthsH) 103 Go.Proofs.Try.Lib.tb_specHasPrefix) g E args
theorem T_specPartM_ok : TblOK Try.prog T_specPartM := (addT_ok (addT_ok (addT_ok (addT_ok (addT_ok nilT_ok (by decide +kernel) Go.Proofs.Try.Hdt.tb_specWord_ok) (by decide +kernel) Go.Proofs.Try.Hdt.tb_specNum_ok) (by decide +kernel) Go.Proofs.Try.Hdt.tb_specDaysH_ok) (by decide +kernel) Go.Proofs.Try.Hdt.tb_specMonthsH_ok) (by decide +kernel) Go.Proofs.Try.Lib.tb_specHasPrefix_ok)
set_option maxRecDepth 100000 in
set_option maxHeartbeats 4000000 in
theorem specPartM (s : List UInt8) (y mo d h mi se week : Int) (two bad : Bool) (hs : s.length ≤ 1000000) : SpecE Try.prog 79 [.cells 10 false rz [.agg [.str s, .int .i64 y, .int .i64 mo, .int .i64 d, .int .i64 h, .int .i64 mi, .int .i64 se, .int .i64 week, .bool two, .bool bad]]] [.ptr 0 0 0 1, .int .i32 109] [.cells 10 false rz [.agg [.str (wdS hdMonths s), .int .i64 y, .int .i64 (wdN hdMonths s + 1), .int .i64 d, .int .i64 h, .int .i64 mi, .int .i64 se, .int .i64 week, .bool two, .bool (bad || wdB hdMonths s)]]] (.tuple []) := by
  refine specFE (C := T_specPartM) (wr := false) (D := fun _ => []) (U := fun _ => none) (E := [.cells 10 false rz [.agg [.str s, .int .i64 y, .int .i64 mo, .int .i64 d, .int .i64 h, .int .i64 mi, .int .i64 se, .int .i64 week, .bool two, .bool bad]]]) (E' := [.cells 10 false rz [.agg [.str (wdS hdMonths s), .int .i64 y, .int .i64 (wdN hdMonths s + 1), .int .i64 d, .int .i64 h, .int .i64 mi, .int .i64 se, .int .i64 week, .bool two, .bool (bad || wdB hdMonths s)]]]) (res := []) [] Try.Ty.mixed T_specPartM_ok Try.func79 (nE := 1) (nA := 2) (by decide +kernel) rfl rfl ?_
  simp only [Try.f79, bodyOf, rlOf]
  rw [W_V]
  simp (config := {maxSteps := 2000000}) only [T_specPartM, Go.Proofs.Try.Hdt.tb_specWord, Go.Proofs.Try.Hdt.tb_specNum, Go.Proofs.Try.Hdt.tb_specDaysH, Go.Proofs.Try.Hdt.tb_specMonthsH, Go.Proofs.Try.Lib.tb_specHasPrefix, go_sem, reduceIte, Nat.reduceEqDiff, Nat.reduceAdd, Nat.reduceMul, Nat.reduceDiv, Nat.reduceMod, Nat.reduceSub, Nat.reduceBEq, Nat.reduceLT, Nat.reduceLeDiff, reduceCtorEq, Int.reduceNeg, Int.reduceEq, String.reduceEq, Int.reduceLT, Int.reduceLE, Int.reduceToNat, Int.reduceAdd, Int.reduceMul, Int.reduceSub, rz, hdDays, hdMonths, hdDays3]
  (try simp (config := {maxSteps := 2000000}) only [gimp, impB, isT, go_sem, reduceIte, Nat.reduceEqDiff, Nat.reduceAdd, Nat.reduceMul, Nat.reduceDiv, Nat.reduceMod, Nat.reduceSub, Nat.reduceBEq, Nat.reduceLT, Nat.reduceLeDiff, reduceCtorEq, Int.reduceNeg, Int.reduceEq, String.reduceEq, Int.reduceLT, Int.reduceLE, Int.reduceToNat, Int.reduceAdd, Int.reduceMul, Int.reduceSub])
  have := wdN_range [[74, 97, 110], [70, 101, 98], [77, 97, 114], [65, 112, 114], [77, 97, 121], [74, 117, 110], [74, 117, 108], [65, 117, 103], [83, 101, 112], [79, 99, 116], [78, 111, 118], [68, 101, 99]] s
  simp only [List.length_cons, List.length_nil] at this
  exact ⟨hs, by omega, by omega⟩

end Go.Proofs.Try.Hdt
