/- civil: days, both sides. No condition. -/
import Derived.Test.YtnfidlgiaaeleaaAbsV
import Derived.Test.YtnfidlgiaaeleaaTyp
import Derived.KernelRfl
set_option linter.unusedVariables false
set_option linter.unusedSimpArgs false
namespace Go.Proofs.Try.Civil
open Go Go.Abs Go.Proofs

theorem mixed : Try.prog.follows .mixedOrders = true := by kernel_rfl
theorem uInt : Try.prog.underlying 3 = some (.int .i64) := Try.underlying3
theorem uBool : Try.prog.underlying 4 = some .bool := Try.underlying4
theorem szInt : szT Try.prog 3 = some 1 := by kernel_rfl
theorem aggInt : aggT Try.prog 3 = some false := by kernel_rfl
theorem zInt : zT Try.prog 3 = some (.int .i64 0) := by kernel_rfl
theorem zArr : zT Try.prog 138 = some (.agg (List.replicate 12 (.int .i64 0))) := by kernel_rfl
theorem szArr : szT Try.prog 138 = some 12 := by kernel_rfl
theorem aggArr : aggT Try.prog 138 = some true := by kernel_rfl
theorem uArr : Try.prog.underlying 138 = some (.array 12 3) := by kernel_rfl

theorem quo_nn {a : Int} (b : Int) (h : 0 ≤ a) : a.tdiv b = a / b := Int.tdiv_eq_ediv_of_nonneg h
theorem rem_nn {a : Int} (b : Int) (h : 0 ≤ a) : a.tmod b = a % b := Int.tmod_eq_emod_of_nonneg h
/-- The remainder by a positive literal. -/
theorem rem_zero (a b : Int) : decide (a.tmod b = 0) = decide (a % b = 0) := by
  have : a.tmod b = 0 ↔ a % b = 0 := by rw [← Int.dvd_iff_tmod_eq_zero, Int.dvd_iff_emod_eq_zero]
  simp [this]

/-! the model's answers -/
def leap (y : Int) : Bool := decide (y % 4 = 0) && (!decide (y % 100 = 0) || decide (y % 400 = 0))

theorem specLeap (y : Int) : SpecE Try.prog 120 [] [.int .i64 y] [] (.bool (leap y)) := by
  refine specF0 (C := nilT) (wr := false) (D := fun _ => []) (U := fun _ => none) (res := [.bool (leap y)]) mixed nilT_ok Try.func120 (nA := 1) (by decide +kernel) rfl (fun _ => rfl) ?_
  simp only [Try.f120, bodyOf, rlOf]
  rw [W_V]
  simp only [go_sem, go_sem, reduceIte, Nat.reduceEqDiff, Nat.reduceAdd, Nat.reduceMul, Nat.reduceDiv, Nat.reduceMod, Nat.reduceSub, Nat.reduceBEq, Nat.reduceLT, Nat.reduceLeDiff, reduceCtorEq, Int.reduceNeg, Int.reduceEq, String.reduceEq, Int.reduceLT, Int.reduceLE, Int.reduceToNat, Int.reduceAdd, Int.reduceMul, Int.reduceSub, uInt, uBool, leap, rem_zero]
  all_goals (by_cases h4 : y % 4 = 0 <;> by_cases h100 : y % 100 = 0 <;> simp [h4, h100])

theorem specLeapR (y : Int) : SpecE Try.prog 107 [] [.int .i64 y] [] (.bool (leap y)) := by
  refine specF0 (C := nilT) (wr := false) (D := fun _ => []) (U := fun _ => none) (res := [.bool (leap y)]) mixed nilT_ok Try.func107 (nA := 1) (by decide +kernel) rfl (fun _ => rfl) ?_
  simp only [Try.f107, bodyOf, rlOf]
  rw [W_V]
  simp only [go_sem, go_sem, reduceIte, Nat.reduceEqDiff, Nat.reduceAdd, Nat.reduceMul, Nat.reduceDiv, Nat.reduceMod, Nat.reduceSub, Nat.reduceBEq, Nat.reduceLT, Nat.reduceLeDiff, reduceCtorEq, Int.reduceNeg, Int.reduceEq, String.reduceEq, Int.reduceLT, Int.reduceLE, Int.reduceToNat, Int.reduceAdd, Int.reduceMul, Int.reduceSub, uInt, uBool, rem_zero, decide_eq_true_eq, decide_eq_false_iff_not]
  have e4 : y % 400 = 0 → y % 4 = 0 := by omega
  unfold leap
  by_cases h4 : y % 4 = 0 <;> by_cases h100 : y % 100 = 0 <;> by_cases h400 : y % 400 = 0 <;> simp_all

def lens : List Int := [31, 28, 31, 30, 31, 30, 31, 31, 30, 31, 30, 31]

theorem specLens : SpecE Try.prog 121 [] [] [] (.agg (lens.map (.int .i64))) := by
  refine specF0 (C := nilT) (wr := false) (D := fun _ => []) (U := fun _ => none) (res := [.agg (lens.map (.int .i64))]) mixed nilT_ok Try.func121 (nA := 0) (by decide +kernel) rfl (fun _ => rfl) ?_
  simp only [Try.f121, bodyOf, rlOf]
  rw [W_V]
  simp only [go_sem, go_sem, reduceIte, Nat.reduceEqDiff, Nat.reduceAdd, Nat.reduceMul, Nat.reduceDiv, Nat.reduceMod, Nat.reduceSub, Nat.reduceBEq, Nat.reduceLT, Nat.reduceLeDiff, reduceCtorEq, Int.reduceNeg, Int.reduceEq, String.reduceEq, Int.reduceLT, Int.reduceLE, Int.reduceToNat, Int.reduceAdd, Int.reduceMul, Int.reduceSub, uInt, uBool, uArr, szArr, aggArr, zArr, szInt, aggInt, zInt]
  exact ⟨rfl, by simp [idsOK, idsOKL, lens]⟩

def T1 : Tbl := fun g E args => addT (addT (addT nilT 120 (c1 .i64 (fun y => .bool (leap y)) (fun _ => True))) 107 (c1 .i64 (fun y => .bool (leap y)) (fun _ => True)))
  121 (c0 (.agg (lens.map (.int .i64))) True) g E args
theorem T1_ok : TblOK Try.prog T1 :=
  add0 (add1 (add1 nilT_ok (by decide +kernel) (fun y _ => specLeap y)) (by decide +kernel) (fun y _ => specLeapR y)) (by decide +kernel) (fun _ => specLens)

def long (y m : Int) : Int := if m < 1 ∨ 12 < m then 0 else if m = 2 ∧ leap y = true then 29 else lens.getD (m - 1).toNat 0

theorem specLong (y m : Int) : SpecE Try.prog 104 [] [.int .i64 y, .int .i64 m] [] (.int .i64 (long y m)) := by
  refine specF0 (C := T1) (wr := false) (D := fun _ => []) (U := fun _ => none) (res := [.int .i64 (long y m)]) mixed T1_ok Try.func104 (nA := 2) (by decide +kernel) rfl (fun _ => rfl) ?_
  simp only [Try.f104, bodyOf, rlOf]
  rw [W_V]
  simp only [T1, lens, go_sem, go_sem, reduceIte, Nat.reduceEqDiff, Nat.reduceAdd, Nat.reduceMul, Nat.reduceDiv, Nat.reduceMod, Nat.reduceSub, Nat.reduceBEq, Nat.reduceLT, Nat.reduceLeDiff, reduceCtorEq, Int.reduceNeg, Int.reduceEq, String.reduceEq, Int.reduceLT, Int.reduceLE, Int.reduceToNat, Int.reduceAdd, Int.reduceMul, Int.reduceSub, uInt, uBool, uArr, szArr, aggArr, zArr, szInt, aggInt, zInt]
  refine ⟨fun h => ?_, fun h h' => ⟨fun h2 h3 => ?_, fun h2 => ?_⟩⟩
  · unfold long; rw [if_pos h]
  · unfold long; rw [if_neg (by omega), if_pos ⟨h2, h3⟩]
  · have e : long y m = lens.getD (m - 1).toNat 0 := by
      unfold long; rw [if_neg (by omega), if_neg (by intro hh; simp [hh.1, hh.2] at h2)]
    rw [e]
    have : m = 1 ∨ m = 2 ∨ m = 3 ∨ m = 4 ∨ m = 5 ∨ m = 6 ∨ m = 7 ∨ m = 8 ∨ m = 9 ∨ m = 10 ∨ m = 11 ∨ m = 12 := by omega
    rcases this with rfl | rfl | rfl | rfl | rfl | rfl | rfl | rfl | rfl | rfl | rfl | rfl <;> simp [lens]

theorem specLongR (y m : Int) : SpecE Try.prog 89 [] [.int .i64 y, .int .i64 m] [] (.int .i64 (long y m)) := by
  refine specF0 (C := T1) (wr := false) (D := fun _ => []) (U := fun _ => none) (res := [.int .i64 (long y m)]) mixed T1_ok Try.func89 (nA := 2) (by decide +kernel) rfl (fun _ => rfl) ?_
  simp only [Try.f89, bodyOf, rlOf]
  rw [W_V]
  simp only [T1, lens, go_sem, go_sem, reduceIte, Nat.reduceEqDiff, Nat.reduceAdd, Nat.reduceMul, Nat.reduceDiv, Nat.reduceMod, Nat.reduceSub, Nat.reduceBEq, Nat.reduceLT, Nat.reduceLeDiff, reduceCtorEq, Int.reduceNeg, Int.reduceEq, String.reduceEq, Int.reduceLT, Int.reduceLE, Int.reduceToNat, Int.reduceAdd, Int.reduceMul, Int.reduceSub, uInt, uBool, uArr, szArr, aggArr, zArr, szInt, aggInt, zInt]
  unfold long
  refine ⟨fun h2 h3 => by rw [if_neg (by omega), if_pos ⟨h2, h3⟩], fun h => ⟨fun h2 => ?_, fun h2 => ⟨fun h3 => ?_, fun h3 h4 h5 h6 => ⟨fun h7 => by rw [if_pos h7], fun h7 h8 => ?_⟩⟩⟩⟩
  · subst h2; simp at h; simp [h, lens]
  · rcases h3 with ((h3 | h3) | h3) | h3 <;> subst h3 <;> simp [lens]
  · have : m = 1 ∨ m = 3 ∨ m = 5 ∨ m = 7 ∨ m = 8 ∨ m = 10 ∨ m = 12 := by omega
    rcases this with rfl | rfl | rfl | rfl | rfl | rfl | rfl <;> simp [lens]

def whole (y : Int) : Int := if leap y = true then 366 else 365
theorem specWhole (y : Int) : SpecE Try.prog 88 [] [.int .i64 y] [] (.int .i64 (whole y)) := by
  refine specF0 (C := T1) (wr := false) (D := fun _ => []) (U := fun _ => none) (res := [.int .i64 (whole y)]) mixed T1_ok Try.func88 (nA := 1) (by decide +kernel) rfl (fun _ => rfl) ?_
  simp only [Try.f88, bodyOf, rlOf]
  rw [W_V]
  simp only [T1, go_sem, go_sem, reduceIte, Nat.reduceEqDiff, Nat.reduceAdd, Nat.reduceMul, Nat.reduceDiv, Nat.reduceMod, Nat.reduceSub, Nat.reduceBEq, Nat.reduceLT, Nat.reduceLeDiff, reduceCtorEq, Int.reduceNeg, Int.reduceEq, String.reduceEq, Int.reduceLT, Int.reduceLE, Int.reduceToNat, Int.reduceAdd, Int.reduceMul, Int.reduceSub, uInt, uBool]
  unfold whole
  exact ⟨fun h => by rw [if_pos h], fun h => by rw [if_neg (by simp [h])]⟩

def T2 : Tbl := fun g E args => addT (addT (addT T1 104 (c2 (fun y m => .int .i64 (long y m)) (fun _ _ => True))) 89 (c2 (fun y m => .int .i64 (long y m)) (fun _ _ => True)))
  88 (c1 .i64 (fun y => .int .i64 (whole y)) (fun _ => True)) g E args
theorem T2_ok : TblOK Try.prog T2 :=
  add1 (add2 (add2 T1_ok (by decide +kernel) (fun y m _ => specLong y m)) (by decide +kernel) (fun y m _ => specLongR y m)) (by decide +kernel) (fun y _ => specWhole y)

def right (y m d : Int) : Bool := decide (1 ≤ y ∧ y ≤ 9999 ∧ 1 ≤ d ∧ d ≤ long y m)
theorem specRight (y m d : Int) : SpecE Try.prog 81 [] [.int .i64 y, .int .i64 m, .int .i64 d] [] (.bool (right y m d)) := by
  refine specF0 (C := T2) (wr := false) (D := fun _ => []) (U := fun _ => none) (res := [.bool (right y m d)]) mixed T2_ok Try.func81 (nA := 3) (by decide +kernel) rfl (fun _ => rfl) ?_
  simp only [Try.f81, bodyOf, rlOf]
  rw [W_V]
  simp only [T2, T1, go_sem, go_sem, reduceIte, Nat.reduceEqDiff, Nat.reduceAdd, Nat.reduceMul, Nat.reduceDiv, Nat.reduceMod, Nat.reduceSub, Nat.reduceBEq, Nat.reduceLT, Nat.reduceLeDiff, reduceCtorEq, Int.reduceNeg, Int.reduceEq, String.reduceEq, Int.reduceLT, Int.reduceLE, Int.reduceToNat, Int.reduceAdd, Int.reduceMul, Int.reduceSub, uInt, uBool]
  simp [right, Bool.and_assoc]

/-- The days before the year y, and before the month m. -/
def dby (y : Int) : Int := 365 * (y - 1) + (y - 1) / 4 - (y - 1) / 100 + (y - 1) / 400
def cumL : List Int := [0, 0, 31, 59, 90, 120, 151, 181, 212, 243, 273, 304, 334, 365]
def cum (y m : Int) : Int := cumL.getD m.toNat 0 + if 2 < m ∧ leap y = true then 1 else 0
def dayNo (y m d : Int) : Int := dby y + cum y m + d - 1 - 719162
def dayAns (y m d : Int) : Int := if right y m d = true then dayNo y m d else 0

theorem dby_whole (y : Int) : dby (y + 1) = dby y + whole y := by
  unfold dby whole leap
  by_cases h4 : y % 4 = 0 <;> by_cases h100 : y % 100 = 0 <;> by_cases h400 : y % 400 = 0 <;> simp [h4, h100, h400] <;> omega

def T3 : Tbl := fun g E args => addT T2 81 (c3 (fun y m d => .bool (right y m d)) (fun _ _ _ => True)) g E args
theorem T3_ok : TblOK Try.prog T3 := add3 T2_ok (by decide +kernel) (fun y m d _ => specRight y m d)

theorem right_iff {y m d : Int} : right y m d = true ↔ 1 ≤ y ∧ y ≤ 9999 ∧ 1 ≤ d ∧ d ≤ long y m := by simp [right]
theorem long_le (y m : Int) : long y m ≤ 31 ∧ 0 ≤ long y m ∧ (1 ≤ long y m → 1 ≤ m ∧ m ≤ 12) := by
  unfold long
  split
  · omega
  · split
    · omega
    · have : m = 1 ∨ m = 2 ∨ m = 3 ∨ m = 4 ∨ m = 5 ∨ m = 6 ∨ m = 7 ∨ m = 8 ∨ m = 9 ∨ m = 10 ∨ m = 11 ∨ m = 12 := by omega
      rcases this with rfl | rfl | rfl | rfl | rfl | rfl | rfl | rfl | rfl | rfl | rfl | rfl <;> simp [lens]
theorem right_bounds {y m d : Int} (h : right y m d = true) : 1 ≤ y ∧ y ≤ 9999 ∧ 1 ≤ m ∧ m ≤ 12 ∧ 1 ≤ d ∧ d ≤ 31 := by
  have h1 := right_iff.1 h
  have h2 := long_le y m
  omega
theorem dby_eq (y : Int) : dby (y + 1) = y * 365 + y / 4 - y / 100 + y / 400 := by unfold dby; simp; omega

/-- The place of a day, as the program reckons it: years begin with March. -/
theorem day_early {y m d : Int} (hm : m = 1 ∨ m = 2) : (y - 1) * 365 + (y - 1) / 4 - (y - 1) / 100 + (y - 1) / 400 + (153 * (m + 9) + 2) / 5 + d - 1 - 719468 = dayNo y m d := by
  unfold dayNo
  rw [← dby_eq, show y - 1 + 1 = y by omega]
  rcases hm with rfl | rfl <;> simp [cum, cumL] <;> omega
theorem day_late {y m d : Int} (hm : 3 ≤ m ∧ m ≤ 12) : y * 365 + y / 4 - y / 100 + y / 400 + (153 * (m - 3) + 2) / 5 + d - 1 - 719468 = dayNo y m d := by
  unfold dayNo
  rw [← dby_eq, dby_whole]
  have : m = 3 ∨ m = 4 ∨ m = 5 ∨ m = 6 ∨ m = 7 ∨ m = 8 ∨ m = 9 ∨ m = 10 ∨ m = 11 ∨ m = 12 := by omega
  unfold whole
  by_cases hl : leap y = true
  · rcases this with rfl | rfl | rfl | rfl | rfl | rfl | rfl | rfl | rfl | rfl <;> simp [cum, cumL, hl] <;> omega
  · rcases this with rfl | rfl | rfl | rfl | rfl | rfl | rfl | rfl | rfl | rfl <;> simp [cum, cumL, hl] <;> omega

set_option maxRecDepth 100000 in
set_option maxHeartbeats 1000000 in
theorem specDays (y m d : Int) : SpecE Try.prog 47 [] [.int .i64 y, .int .i64 m, .int .i64 d] [] (.tuple [.int .i64 (dayAns y m d), .bool (right y m d)]) := by
  refine specF0 (C := T3) (wr := false) (D := fun _ => []) (U := fun _ => none) (res := [.int .i64 (dayAns y m d), .bool (right y m d)]) mixed T3_ok Try.func47 (nA := 3) (by decide +kernel) rfl (fun _ => rfl) ?_
  simp only [Try.f47, bodyOf, rlOf]
  rw [W_V]
  simp only [T3, T2, T1, go_sem, go_sem, reduceIte, Nat.reduceEqDiff, Nat.reduceAdd, Nat.reduceMul, Nat.reduceDiv, Nat.reduceMod, Nat.reduceSub, Nat.reduceBEq, Nat.reduceLT, Nat.reduceLeDiff, reduceCtorEq, Int.reduceNeg, Int.reduceEq, String.reduceEq, Int.reduceLT, Int.reduceLE, Int.reduceToNat, Int.reduceAdd, Int.reduceMul, Int.reduceSub, uInt, uBool]
  refine ⟨fun h => ⟨by simp [dayAns, h], h.symm⟩, fun h => ?_⟩
  have hr : right y m d = true := by simpa using h
  obtain ⟨h1, h2, h3, h4, h5, h6⟩ := right_bounds hr
  simp only [dayAns, hr, if_true]
  have e0 : (m + 9).tmod 12 = if m ≤ 2 then m + 9 else m - 3 := by
    rw [rem_nn _ (by omega)]; split <;> omega
  refine ⟨by omega, fun h10 => ?_, fun h10 => ?_⟩
  · have hm : m ≤ 2 := by rw [e0] at h10; split at h10 <;> omega
    rw [e0, if_pos hm, quo_nn 4 (by omega : 0 ≤ y - 1), quo_nn 100 (by omega : 0 ≤ y - 1), quo_nn 400 (by omega : 0 ≤ y - 1), quo_nn 5 (by omega : 0 ≤ 153 * (m + 9) + 2), ← day_early (y := y) (m := m) (d := d) (by omega)]
    and_intros <;> first | omega | trivial
  · have hm : ¬ m ≤ 2 := by rw [e0] at h10; split at h10 <;> omega
    rw [e0, if_neg hm, quo_nn 4 (by omega : 0 ≤ y), quo_nn 100 (by omega : 0 ≤ y), quo_nn 400 (by omega : 0 ≤ y), quo_nn 5 (by omega : 0 ≤ 153 * (m - 3) + 2), ← day_late (y := y) (m := m) (d := d) (by omega)]
    and_intros <;> first | omega | trivial

theorem dby_1970 : dby 1970 = 719162 := by decide
theorem whole_bounds (y : Int) : 365 ≤ whole y ∧ whole y ≤ 366 := by unfold whole; split <;> omega
theorem dby_bounds {y : Int} (h : 1 ≤ y ∧ y ≤ 10000) : 0 ≤ dby y ∧ dby y ≤ 3660000 := by unfold dby; omega
theorem cum_1 (y : Int) : cum y 1 = 0 := by simp [cum, cumL]
theorem cum_step {y m : Int} (h : 1 ≤ m ∧ m ≤ 12) : cum y (m + 1) = cum y m + long y m := by
  have : m = 1 ∨ m = 2 ∨ m = 3 ∨ m = 4 ∨ m = 5 ∨ m = 6 ∨ m = 7 ∨ m = 8 ∨ m = 9 ∨ m = 10 ∨ m = 11 ∨ m = 12 := by omega
  by_cases hl : leap y = true <;> rcases this with rfl | rfl | rfl | rfl | rfl | rfl | rfl | rfl | rfl | rfl | rfl | rfl <;> simp [cum, cumL, long, lens, hl]
theorem cum_bounds {y m : Int} (h : 1 ≤ m ∧ m ≤ 13) : 0 ≤ cum y m ∧ cum y m ≤ 366 := by
  have : m = 1 ∨ m = 2 ∨ m = 3 ∨ m = 4 ∨ m = 5 ∨ m = 6 ∨ m = 7 ∨ m = 8 ∨ m = 9 ∨ m = 10 ∨ m = 11 ∨ m = 12 ∨ m = 13 := by omega
  by_cases hl : leap y = true <;> rcases this with rfl | rfl | rfl | rfl | rfl | rfl | rfl | rfl | rfl | rfl | rfl | rfl | rfl <;> simp [cum, cumL, hl]

set_option maxRecDepth 100000 in
set_option maxHeartbeats 1000000 in
theorem specDaysR (y m d : Int) : SpecE Try.prog 85 [] [.int .i64 y, .int .i64 m, .int .i64 d] [] (.tuple [.int .i64 (dayAns y m d), .bool (right y m d)]) := by
  refine specF0 (C := T3) (wr := false) (D := fun _ => []) (U := fun _ => none) (res := [.int .i64 (dayAns y m d), .bool (right y m d)]) mixed T3_ok Try.func85 (nA := 3) (by decide +kernel) rfl (fun _ => rfl) ?_
  simp only [Try.f85, bodyOf, rlOf]
  rw [W_V]
  simp only [T3, T2, T1, go_sem, go_sem, reduceIte, Nat.reduceEqDiff, Nat.reduceAdd, Nat.reduceMul, Nat.reduceDiv, Nat.reduceMod, Nat.reduceSub, Nat.reduceBEq, Nat.reduceLT, Nat.reduceLeDiff, reduceCtorEq, Int.reduceNeg, Int.reduceEq, String.reduceEq, Int.reduceLT, Int.reduceLE, Int.reduceToNat, Int.reduceAdd, Int.reduceMul, Int.reduceSub, uInt, uBool]
  refine ⟨fun h => ?_, fun h1 h2 h3 h4 => ⟨by have := long_le y m; omega, ?_⟩⟩
  · have hr : right y m d = false := by
      rw [← Bool.not_eq_true]; intro hr; have := right_iff.1 hr; omega
    exact ⟨by simp [dayAns, hr], hr.symm⟩
  have hr : right y m d = true := right_iff.2 (by omega)
  obtain ⟨-, -, hm1, hm2, -, hd⟩ := right_bounds hr
  refine VL_inv (X := Int × Int) (fun x => ⟨[(0, .int .i64 y), (1, .int .i64 m), (8, .int .i64 x.1), (9, .int .i64 x.2)], []⟩)
    (fun x => 1970 ≤ x.2 ∧ (1970 ≤ y → x.2 ≤ y) ∧ (y < 1970 → x.2 = 1970) ∧ x.1 = d - 1 + dby x.2 - 719162) (fun x => (y - x.2).toNat) (d - 1, 1970) ?_ ?_ ?_
  · simp only [go_sem, go_sem, reduceIte, Nat.reduceEqDiff, Nat.reduceAdd, Nat.reduceMul, Nat.reduceDiv, Nat.reduceMod, Nat.reduceSub, Nat.reduceBEq, Nat.reduceLT, Nat.reduceLeDiff, reduceCtorEq, Int.reduceNeg, Int.reduceEq, String.reduceEq, Int.reduceLT, Int.reduceLE, Int.reduceToNat, Int.reduceAdd, Int.reduceMul, Int.reduceSub]
  · exact ⟨Int.le_refl _, fun h => h, fun _ => rfl, by simp only [dby_1970]; omega⟩
  rintro ⟨n, i⟩ ⟨i1, i2, i3, i4⟩
  simp only at i1 i2 i3 i4
  have b1 := dby_bounds (y := i) (by omega)
  simp only [T3, T2, T1, go_sem, go_sem, reduceIte, Nat.reduceEqDiff, Nat.reduceAdd, Nat.reduceMul, Nat.reduceDiv, Nat.reduceMod, Nat.reduceSub, Nat.reduceBEq, Nat.reduceLT, Nat.reduceLeDiff, reduceCtorEq, Int.reduceNeg, Int.reduceEq, String.reduceEq, Int.reduceLT, Int.reduceLE, Int.reduceToNat, Int.reduceAdd, Int.reduceMul, Int.reduceSub, uInt, uBool]
  refine ⟨fun hlt => ⟨?_, ?_, ?_⟩, fun hge => ?_⟩
  · have := whole_bounds i; omega
  · omega
  · refine ⟨(n + whole i, i + 1), ?_⟩
    simp only [true_and, and_true, dby_whole]
    omega
  have hdy : d - 1 + dby (max y 1970) - 719162 = n := by
    have : max y 1970 = i := by omega
    rw [this]; omega
  refine VL_inv (X := Int × Int) (fun x => ⟨[(0, .int .i64 y), (1, .int .i64 m), (8, .int .i64 x.1), (10, .int .i64 x.2)], []⟩)
    (fun x => y ≤ x.2 ∧ (y ≤ 1970 → x.2 ≤ 1970) ∧ (1970 < y → x.2 = y) ∧ x.1 = n + dby y - dby x.2) (fun x => (1970 - x.2).toNat) (n, y) ?_ ?_ ?_
  · simp only [go_sem, go_sem, reduceIte, Nat.reduceEqDiff, Nat.reduceAdd, Nat.reduceMul, Nat.reduceDiv, Nat.reduceMod, Nat.reduceSub, Nat.reduceBEq, Nat.reduceLT, Nat.reduceLeDiff, reduceCtorEq, Int.reduceNeg, Int.reduceEq, String.reduceEq, Int.reduceLT, Int.reduceLE, Int.reduceToNat, Int.reduceAdd, Int.reduceMul, Int.reduceSub]
  · exact ⟨Int.le_refl _, fun h => h, fun _ => rfl, by simp only; omega⟩
  rintro ⟨n2, i'⟩ ⟨j1, j2, j3, j4⟩
  simp only at j1 j2 j3 j4
  have b2 := dby_bounds (y := i') (by omega)
  have b3 := dby_bounds (y := y) (by omega)
  have b5 := dby_bounds (y := max y 1970) (by omega)
  simp only [T3, T2, T1, go_sem, go_sem, reduceIte, Nat.reduceEqDiff, Nat.reduceAdd, Nat.reduceMul, Nat.reduceDiv, Nat.reduceMod, Nat.reduceSub, Nat.reduceBEq, Nat.reduceLT, Nat.reduceLeDiff, reduceCtorEq, Int.reduceNeg, Int.reduceEq, String.reduceEq, Int.reduceLT, Int.reduceLE, Int.reduceToNat, Int.reduceAdd, Int.reduceMul, Int.reduceSub, uInt, uBool]
  refine ⟨fun hlt => ⟨?_, ?_, ?_⟩, fun hge => ?_⟩
  · have := whole_bounds i'; omega
  · omega
  · refine ⟨(n2 - whole i', i' + 1), ?_⟩
    simp only [true_and, and_true, dby_whole]
    omega
  have hn2 : n2 = d - 1 + dby y - 719162 := by
    by_cases hy : y < 1970
    · have e1 : max y 1970 = 1970 := by omega
      have e2 : i' = 1970 := by omega
      rw [e1] at hdy; rw [e2] at j4; omega
    · have e1 : max y 1970 = y := by omega
      have e2 : i' = y := by omega
      rw [e1] at hdy; rw [e2] at j4; omega
  refine VL_inv (X := Int × Int) (fun x => ⟨[(0, .int .i64 y), (1, .int .i64 m), (8, .int .i64 x.1), (11, .int .i64 x.2)], []⟩)
    (fun x => 1 ≤ x.2 ∧ x.2 ≤ m ∧ x.1 = n2 + cum y x.2) (fun x => (m - x.2).toNat) (n2, 1) ?_ ?_ ?_
  · simp only [go_sem, go_sem, reduceIte, Nat.reduceEqDiff, Nat.reduceAdd, Nat.reduceMul, Nat.reduceDiv, Nat.reduceMod, Nat.reduceSub, Nat.reduceBEq, Nat.reduceLT, Nat.reduceLeDiff, reduceCtorEq, Int.reduceNeg, Int.reduceEq, String.reduceEq, Int.reduceLT, Int.reduceLE, Int.reduceToNat, Int.reduceAdd, Int.reduceMul, Int.reduceSub]
  · exact ⟨Int.le_refl _, hm1, by simp only [cum_1]; omega⟩
  rintro ⟨n3, k⟩ ⟨k1, k2, k3⟩
  simp only at k1 k2 k3
  have b4 := cum_bounds (y := y) (m := k) (by omega)
  simp only [T3, T2, T1, go_sem, go_sem, reduceIte, Nat.reduceEqDiff, Nat.reduceAdd, Nat.reduceMul, Nat.reduceDiv, Nat.reduceMod, Nat.reduceSub, Nat.reduceBEq, Nat.reduceLT, Nat.reduceLeDiff, reduceCtorEq, Int.reduceNeg, Int.reduceEq, String.reduceEq, Int.reduceLT, Int.reduceLE, Int.reduceToNat, Int.reduceAdd, Int.reduceMul, Int.reduceSub, uInt, uBool]
  refine ⟨fun hlt => ⟨?_, ?_, ?_⟩, fun hge => ?_⟩
  · have := long_le y k; omega
  · omega
  · refine ⟨(n3 + long y k, k + 1), ?_⟩
    simp only [true_and, and_true, cum_step (y := y) (m := k) (by omega)]
    omega
  · have e : k = m := by omega
    subst e
    refine ⟨?_, hr.symm⟩
    simp only [dayAns, hr, if_true, dayNo]; omega

def weekday (n : Int) : Int := (n % 7 + 4) % 7

theorem specWeekday (n : Int) : SpecE Try.prog 48 [] [.int .i64 n] [] (.int .i64 (weekday n)) := by
  refine specF0 (C := nilT) (wr := false) (D := fun _ => []) (U := fun _ => none) (res := [.int .i64 (weekday n)]) mixed nilT_ok Try.func48 (nA := 1) (by decide +kernel) rfl (fun _ => rfl) ?_
  simp only [Try.f48, bodyOf, rlOf]
  rw [W_V]
  simp only [go_sem, go_sem, reduceIte, Nat.reduceEqDiff, Nat.reduceAdd, Nat.reduceMul, Nat.reduceDiv, Nat.reduceMod, Nat.reduceSub, Nat.reduceBEq, Nat.reduceLT, Nat.reduceLeDiff, reduceCtorEq, Int.reduceNeg, Int.reduceEq, String.reduceEq, Int.reduceLT, Int.reduceLE, Int.reduceToNat, Int.reduceAdd, Int.reduceMul, Int.reduceSub, uInt, uBool]
  have e : n.tmod 7 = if 0 ≤ n then n % 7 else -((-n) % 7) := by
    split
    · rw [rem_nn _ (by omega)]
    · rw [← Int.neg_neg n, Int.neg_tmod, rem_nn _ (by omega), Int.neg_neg]
  rw [e]
  unfold weekday
  refine ⟨by split <;> omega, ?_⟩
  rw [rem_nn _ (by split <;> omega)]
  split <;> omega

theorem specWeekdayR (n : Int) : SpecE Try.prog 86 [] [.int .i64 n] [] (.int .i64 (weekday n)) := by
  refine specF0 (C := nilT) (wr := false) (D := fun _ => []) (U := fun _ => none) (res := [.int .i64 (weekday n)]) mixed nilT_ok Try.func86 (nA := 1) (by decide +kernel) rfl (fun _ => rfl) ?_
  simp only [Try.f86, bodyOf, rlOf]
  rw [W_V]
  simp only [go_sem, go_sem, reduceIte, Nat.reduceEqDiff, Nat.reduceAdd, Nat.reduceMul, Nat.reduceDiv, Nat.reduceMod, Nat.reduceSub, Nat.reduceBEq, Nat.reduceLT, Nat.reduceLeDiff, reduceCtorEq, Int.reduceNeg, Int.reduceEq, String.reduceEq, Int.reduceLT, Int.reduceLE, Int.reduceToNat, Int.reduceAdd, Int.reduceMul, Int.reduceSub, uInt, uBool]
  have e : n.tmod 7 = if 0 ≤ n then n % 7 else -((-n) % 7) := by
    split
    · rw [rem_nn _ (by omega)]
    · rw [← Int.neg_neg n, Int.neg_tmod, rem_nn _ (by omega), Int.neg_neg]
  rw [e]
  unfold weekday
  refine ⟨fun h => ?_, fun h => ?_⟩
  · refine ⟨by split at h <;> omega, by split at h <;> omega, ?_⟩
    rw [rem_nn _ (by split at h <;> omega)]
    split at h <;> rename_i h0 <;> simp only [h0, if_true, if_false] <;> omega
  · refine ⟨by split at h <;> omega, ?_⟩
    rw [rem_nn _ (by split at h <;> omega)]
    split at h <;> rename_i h0 <;> simp only [h0, if_true, if_false] <;> omega

def T4 : Tbl := fun g E args => addT (addT (addT (addT T3 47 (c3 (fun y m d => .tuple [.int .i64 (dayAns y m d), .bool (right y m d)]) (fun _ _ _ => True)))
  85 (c3 (fun y m d => .tuple [.int .i64 (dayAns y m d), .bool (right y m d)]) (fun _ _ _ => True)))
  48 (c1 .i64 (fun n => .int .i64 (weekday n)) (fun _ => True))) 86 (c1 .i64 (fun n => .int .i64 (weekday n)) (fun _ => True)) g E args
theorem T4_ok : TblOK Try.prog T4 :=
  add1 (add1 (add3 (add3 T3_ok (by decide +kernel) (fun y m d _ => specDays y m d)) (by decide +kernel) (fun y m d _ => specDaysR y m d)) (by decide +kernel) (fun n _ => specWeekday n)) (by decide +kernel) (fun n _ => specWeekdayR n)


def T_pDays : Tbl := fun g E args => nilT g E args
theorem T_pDays_ok : TblOK Try.prog T_pDays := nilT_ok
set_option maxRecDepth 100000 in
set_option maxHeartbeats 4000000 in
theorem pDays (y m d : Int) : SpecE Try.prog 47 [] [.int .i64 y, .int .i64 m, .int .i64 d] [] (.tuple [.int .i64 (dayAns y m d), .bool (right y m d)]) := by
  exact specDays y m d
def tb_pDays : List Blk → List AV → Option (List Blk × AV × Prop)
  | [], [.int .i64 y, .int .i64 m, .int .i64 d] => some ([], .tuple [.int .i64 (dayAns y m d), .bool (right y m d)], True)
  | _, _ => none
theorem tb_pDays_ok : ∀ E args E' res p, tb_pDays E args = some (E', res, p) → p → SpecE Try.prog 47 E args E' res := by
  intro E args E' res p h hp
  unfold tb_pDays at h
  split at h
  · simp only [Option.some.injEq, Prod.mk.injEq] at h
    obtain ⟨rfl, rfl, rfl⟩ := h
    exact (pDays _ _ _)
  · cases h

def T_pDaysR : Tbl := fun g E args => nilT g E args
theorem T_pDaysR_ok : TblOK Try.prog T_pDaysR := nilT_ok
set_option maxRecDepth 100000 in
set_option maxHeartbeats 4000000 in
theorem pDaysR (y m d : Int) : SpecE Try.prog 85 [] [.int .i64 y, .int .i64 m, .int .i64 d] [] (.tuple [.int .i64 (dayAns y m d), .bool (right y m d)]) := by
  exact specDaysR y m d
def tb_pDaysR : List Blk → List AV → Option (List Blk × AV × Prop)
  | [], [.int .i64 y, .int .i64 m, .int .i64 d] => some ([], .tuple [.int .i64 (dayAns y m d), .bool (right y m d)], True)
  | _, _ => none
theorem tb_pDaysR_ok : ∀ E args E' res p, tb_pDaysR E args = some (E', res, p) → p → SpecE Try.prog 85 E args E' res := by
  intro E args E' res p h hp
  unfold tb_pDaysR at h
  split at h
  · simp only [Option.some.injEq, Prod.mk.injEq] at h
    obtain ⟨rfl, rfl, rfl⟩ := h
    exact (pDaysR _ _ _)
  · cases h

def T_pWeekday : Tbl := fun g E args => nilT g E args
theorem T_pWeekday_ok : TblOK Try.prog T_pWeekday := nilT_ok
set_option maxRecDepth 100000 in
set_option maxHeartbeats 4000000 in
theorem pWeekday (n : Int) : SpecE Try.prog 48 [] [.int .i64 n] [] (.int .i64 (weekday n)) := by
  exact specWeekday n
def tb_pWeekday : List Blk → List AV → Option (List Blk × AV × Prop)
  | [], [.int .i64 n] => some ([], .int .i64 (weekday n), True)
  | _, _ => none
theorem tb_pWeekday_ok : ∀ E args E' res p, tb_pWeekday E args = some (E', res, p) → p → SpecE Try.prog 48 E args E' res := by
  intro E args E' res p h hp
  unfold tb_pWeekday at h
  split at h
  · simp only [Option.some.injEq, Prod.mk.injEq] at h
    obtain ⟨rfl, rfl, rfl⟩ := h
    exact (pWeekday _)
  · cases h

def T_pWeekdayR : Tbl := fun g E args => nilT g E args
theorem T_pWeekdayR_ok : TblOK Try.prog T_pWeekdayR := nilT_ok
set_option maxRecDepth 100000 in
set_option maxHeartbeats 4000000 in
theorem pWeekdayR (n : Int) : SpecE Try.prog 86 [] [.int .i64 n] [] (.int .i64 (weekday n)) := by
  exact specWeekdayR n
def tb_pWeekdayR : List Blk → List AV → Option (List Blk × AV × Prop)
  | [], [.int .i64 n] => some ([], .int .i64 (weekday n), True)
  | _, _ => none
theorem tb_pWeekdayR_ok : ∀ E args E' res p, tb_pWeekdayR E args = some (E', res, p) → p → SpecE Try.prog 86 E args E' res := by
  intro E args E' res p h hp
  unfold tb_pWeekdayR at h
  split at h
  · simp only [Option.some.injEq, Prod.mk.injEq] at h
    obtain ⟨rfl, rfl, rfl⟩ := h
    exact (pWeekdayR _)
  · cases h

def oE (n : Int) : Int := (n + 719468) / 146097
def oR0 (n : Int) : Int := (n + 719468) % 146097
def oC (n : Int) : Int := min (oR0 n / 36524) 3
def oR1 (n : Int) : Int := oR0 n - oC n * 36524
def oF (n : Int) : Int := oR1 n / 1461
def oR2 (n : Int) : Int := oR1 n - oF n * 1461
def oO (n : Int) : Int := min (oR2 n / 365) 3
def oR3 (n : Int) : Int := oR2 n - oO n * 365
def oY0 (n : Int) : Int := oE n * 400 + (oC n * 100 + oF n * 4 + oO n)
def oP (n : Int) : Int := (5 * oR3 n + 2) / 153
def oD (n : Int) : Int := oR3 n - (153 * oP n + 2) / 5 + 1
def oM (n : Int) : Int := (oP n + 2) % 12 + 1
def oY (n : Int) : Int := if 10 ≤ oP n then oY0 n + 1 else oY0 n
def inDays (n : Int) : Bool := decide (-719162 ≤ n ∧ n ≤ 2932896)
def aY (n : Int) : Int := if inDays n = true then oY n else 0
def aM (n : Int) : Int := if inDays n = true then oM n else 0
def aD (n : Int) : Int := if inDays n = true then oD n else 0

theorem o_bounds {n : Int} (h : -719162 ≤ n ∧ n ≤ 2932896) : 0 ≤ oE n ∧ oE n ≤ 24 ∧ 0 ≤ oR0 n ∧ oR0 n ≤ 146096 ∧ 0 ≤ oC n ∧ oC n ≤ 3 ∧ 0 ≤ oR1 n ∧ oR1 n ≤ 36524 ∧ 0 ≤ oF n ∧ oF n ≤ 24 ∧ 0 ≤ oR2 n ∧ oR2 n ≤ 1460 ∧ 0 ≤ oO n ∧ oO n ≤ 3 ∧ 0 ≤ oR3 n ∧ oR3 n ≤ 365 := by
  have h1 : 0 ≤ oE n ∧ oE n ≤ 24 ∧ 0 ≤ oR0 n ∧ oR0 n ≤ 146096 := by unfold oE oR0; omega
  have h2 : 0 ≤ oC n ∧ oC n ≤ 3 ∧ 0 ≤ oR1 n ∧ oR1 n ≤ 36524 := by unfold oR1 oC; omega
  have h3 : 0 ≤ oF n ∧ oF n ≤ 24 ∧ 0 ≤ oR2 n ∧ oR2 n ≤ 1460 := by unfold oR2 oF; omega
  have h4 : 0 ≤ oO n ∧ oO n ≤ 3 ∧ 0 ≤ oR3 n ∧ oR3 n ≤ 365 := by unfold oR3 oO; omega
  omega

set_option maxRecDepth 100000 in
set_option maxHeartbeats 2000000 in
theorem specOf (n : Int) : SpecE Try.prog 78 [] [.int .i64 n] [] (.tuple [.int .i64 (aY n), .int .i64 (aM n), .int .i64 (aD n), .bool (inDays n)]) := by
  refine specF0 (C := nilT) (wr := false) (D := fun _ => []) (U := fun _ => none) (res := [.int .i64 (aY n), .int .i64 (aM n), .int .i64 (aD n), .bool (inDays n)]) mixed nilT_ok Try.func78 (nA := 1) (by decide +kernel) rfl (fun _ => rfl) ?_
  simp only [Try.f78, bodyOf, rlOf]
  rw [W_V]
  simp only [go_sem, go_sem, reduceIte, Nat.reduceEqDiff, Nat.reduceAdd, Nat.reduceMul, Nat.reduceDiv, Nat.reduceMod, Nat.reduceSub, Nat.reduceBEq, Nat.reduceLT, Nat.reduceLeDiff, reduceCtorEq, Int.reduceNeg, Int.reduceEq, String.reduceEq, Int.reduceLT, Int.reduceLE, Int.reduceToNat, Int.reduceAdd, Int.reduceMul, Int.reduceSub, uInt, uBool]
  have hin : inDays n = true ↔ -719162 ≤ n ∧ n ≤ 2932896 := by simp [inDays]
  refine ⟨fun h => ?_, fun h1 h2 => ?_⟩
  · have : inDays n = false := by rw [← Bool.not_eq_true, hin]; omega
    simp [aY, aM, aD, this]
  have hi : inDays n = true := hin.2 (by omega)
  obtain ⟨b1, b2, b3, b4, b5, b6, b7, b8, b9, b10, b11, b12, b13, b14, b15, b16⟩ := o_bounds (hin.1 hi)
  have qE : (n + 719468).tdiv 146097 = oE n := quo_nn _ (by omega)
  have q0 : (n + 719468).tmod 146097 = oR0 n := rem_nn _ (by omega)
  have qC : (oR0 n).tdiv 36524 = oR0 n / 36524 := quo_nn _ b3
  have fC : min (oR0 n / 36524) 3 = oC n := rfl
  have f1 : oR0 n - oC n * 36524 = oR1 n := rfl
  have qF : (oR1 n).tdiv 1461 = oF n := quo_nn _ b7
  have f2 : oR1 n - oF n * 1461 = oR2 n := rfl
  have qO : (oR2 n).tdiv 365 = oR2 n / 365 := quo_nn _ b11
  have fO : min (oR2 n / 365) 3 = oO n := rfl
  have f3 : oR2 n - oO n * 365 = oR3 n := rfl
  have fY : oE n * 400 + (oC n * 100 + oF n * 4 + oO n) = oY0 n := rfl
  have qP : (5 * oR3 n + 2).tdiv 153 = oP n := quo_nn _ (by omega)
  have bP : 0 ≤ oP n ∧ oP n ≤ 11 := by unfold oP; omega
  have qD : (153 * oP n + 2).tdiv 5 = (153 * oP n + 2) / 5 := quo_nn _ (by omega)
  have fD : oR3 n - (153 * oP n + 2) / 5 + 1 = oD n := rfl
  have qM : (oP n + 2).tmod 12 = (oP n + 2) % 12 := rem_nn _ (by omega)
  have fM : (oP n + 2) % 12 + 1 = oM n := rfl
  have bY : 0 ≤ oY0 n ∧ oY0 n ≤ 9999 := by unfold oY0; omega
  have bD : -400 ≤ oD n ∧ oD n ≤ 400 := by unfold oD; omega
  simp only [aY, aM, aD, qE, q0, qC, fC, f1, qF, f2, qO, fO, f3, fY, qP, qD, fD, qM, fM, hi, if_true]
  have r0 : -9223372036854775808 ≤ oR0 n / 36524 ∧ oR0 n / 36524 ≤ 9223372036854775807 := by omega
  have r2 : -9223372036854775808 ≤ oR2 n / 365 ∧ oR2 n / 365 ≤ 9223372036854775807 := by omega
  and_intros
  all_goals try omega
  · intro h10
    simp only [oY, if_pos h10]
    and_intros <;> first | omega | trivial
  · intro h10
    simp only [oY, if_neg (show ¬ 10 ≤ oP n by omega)]
    and_intros <;> first | omega | trivial
end Go.Proofs.Try.Civil
