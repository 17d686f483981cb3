/- civil: dates and seconds, both sides. No condition. -/
import Derived.Test.YtnfidlgiaaeleaaCvlA
set_option linter.unusedVariables false
set_option linter.unusedSimpArgs false
namespace Go.Proofs.Try.Civil
open Go Go.Abs Go.Proofs

theorem o_key {n : Int} (h : -719162 ≤ n ∧ n ≤ 2932896) : oY0 n * 365 + oY0 n / 4 - oY0 n / 100 + oY0 n / 400 + oR3 n = n + 719468 := by
  obtain ⟨b1, b2, b3, b4, b5, b6, b7, b8, b9, b10, b11, b12, b13, b14, b15, b16⟩ := o_bounds h
  have e1 : oY0 n = oE n * 400 + (oC n * 100 + oF n * 4 + oO n) := rfl
  have e2 : oR3 n = oR2 n - oO n * 365 := rfl
  have e3 : oR2 n = oR1 n - oF n * 1461 := rfl
  have e4 : oR1 n = oR0 n - oC n * 36524 := rfl
  have e5 : n + 719468 = oE n * 146097 + oR0 n := by unfold oE oR0; omega
  have q4 : oY0 n / 4 = oE n * 100 + oC n * 25 + oF n := by omega
  have q100 : oY0 n / 100 = oE n * 4 + oC n := by omega
  have q400 : oY0 n / 400 = oE n := by omega
  rw [q4, q100, q400]
  omega
theorem o_last {n : Int} (h : -719162 ≤ n ∧ n ≤ 2932896) : oR3 n = 365 → oO n = 3 ∧ (oF n = 24 → oC n = 3) := by
  obtain ⟨b1, b2, b3, b4, b5, b6, b7, b8, b9, b10, b11, b12, b13, b14, b15, b16⟩ := o_bounds h
  have e2 : oR3 n = oR2 n - oO n * 365 := rfl
  have e3 : oR2 n = oR1 n - oF n * 1461 := rfl
  have e4 : oR1 n = oR0 n - oC n * 36524 := rfl
  have e6 : oO n = min (oR2 n / 365) 3 := rfl
  have e7 : oC n = min (oR0 n / 36524) 3 := rfl
  omega

theorem of_right {n : Int} (h : -719162 ≤ n ∧ n ≤ 2932896) : right (oY n) (oM n) (oD n) = true ∧ dayNo (oY n) (oM n) (oD n) = n := by
  obtain ⟨b1, b2, b3, b4, b5, b6, b7, b8, b9, b10, b11, b12, b13, b14, b15, b16⟩ := o_bounds h
  have hk := o_key h
  have hl := o_last h
  have e1 : oY0 n = oE n * 400 + (oC n * 100 + oF n * 4 + oO n) := rfl
  have eP : oP n = (5 * oR3 n + 2) / 153 := rfl
  have eD : oD n = oR3 n - (153 * oP n + 2) / 5 + 1 := rfl
  have eM : oM n = (oP n + 2) % 12 + 1 := rfl
  have bY : 0 ≤ oY0 n ∧ oY0 n ≤ 9999 := by omega
  rw [right_iff]
  by_cases h10 : 10 ≤ oP n
  · have eY : oY n = oY0 n + 1 := by unfold oY; rw [if_pos h10]
    have hP : oP n = 10 ∨ oP n = 11 := by omega
    have hm : oM n = oP n - 9 := by omega
    have hd := day_early (y := oY0 n + 1) (m := oP n - 9) (d := oD n) (by omega)
    rw [show oY0 n + 1 - 1 = oY0 n by omega, show oP n - 9 + 9 = oP n by omega] at hd
    rw [eY, hm]
    refine ⟨⟨by omega, by omega, by omega, ?_⟩, by rw [← hd]; omega⟩
    rcases hP with hP | hP
    · rw [hP]; simp [long, lens]; omega
    · rw [hP]
      by_cases hlp : leap (oY0 n + 1) = true
      · simp [long, hlp]; omega
      · have : oR3 n ≠ 365 := by
          intro h365
          obtain ⟨k1, k2⟩ := hl h365
          apply hlp
          have k4 : (oY0 n + 1) % 4 = 0 := by omega
          have k100 : (oY0 n + 1) % 100 ≠ 0 ∨ (oY0 n + 1) % 400 = 0 := by omega
          unfold leap
          rcases k100 with k | k <;> simp [k4, k]
        simp [long, hlp, lens]; omega
  · have eY : oY n = oY0 n := by unfold oY; rw [if_neg h10]
    have bP : 0 ≤ oP n := by omega
    have hm : oM n = oP n + 3 := by omega
    have hd := day_late (y := oY0 n) (m := oP n + 3) (d := oD n) (by omega)
    rw [show oP n + 3 - 3 = oP n by omega] at hd
    rw [eY, hm]
    refine ⟨⟨by omega, by omega, by omega, ?_⟩, by rw [← hd]; omega⟩
    have hP : oP n = 0 ∨ oP n = 1 ∨ oP n = 2 ∨ oP n = 3 ∨ oP n = 4 ∨ oP n = 5 ∨ oP n = 6 ∨ oP n = 7 ∨ oP n = 8 ∨ oP n = 9 := by omega
    rcases hP with hP | hP | hP | hP | hP | hP | hP | hP | hP | hP <;> rw [hP] <;> simp [long, lens] <;> omega

theorem dby_mono {a b : Int} (h : a < b) : dby (a + 1) ≤ dby b := by unfold dby; omega
theorem cum_mono {y a b : Int} (h1 : 1 ≤ a) (h : a < b) (h2 : b ≤ 13) : cum y (a + 1) ≤ cum y b := by
  have key : ∀ j : Nat, a + 1 + j ≤ 13 → cum y (a + 1) ≤ cum y (a + 1 + j) := by
    intro j
    induction j with
    | zero => intro _; simp
    | succ j ih =>
      intro hj
      have h3 := ih (by omega)
      have h4 := cum_step (y := y) (m := a + 1 + j) (by omega)
      have h5 := (long_le y (a + 1 + j)).2.1
      rw [show a + 1 + ((j + 1 : Nat) : Int) = a + 1 + j + 1 by omega]
      omega
  have := key (b - (a + 1)).toNat (by omega)
  rwa [show a + 1 + (((b - (a + 1)).toNat : Nat) : Int) = b by omega] at this

/-- One place, one day. -/
theorem day_unique {y m d y' m' d' : Int} (h : right y m d = true) (h' : right y' m' d' = true) (e : dayNo y m d = dayNo y' m' d') : y = y' ∧ m = m' ∧ d = d' := by
  obtain ⟨a1, a2, a3, a4, a5, a6⟩ := right_bounds h
  obtain ⟨c1, c2, c3, c4, c5, c6⟩ := right_bounds h'
  have l1 := (right_iff.1 h).2.2.2
  have l2 := (right_iff.1 h').2.2.2
  have s1 := cum_step (y := y) (m := m) ⟨a3, a4⟩
  have s2 := cum_step (y := y') (m := m') ⟨c3, c4⟩
  have w1 := dby_whole y
  have w2 := dby_whole y'
  have t1 : cum y 13 = whole y := by unfold whole; by_cases hl : leap y = true <;> simp [cum, cumL, hl]
  have t2 : cum y' 13 = whole y' := by unfold whole; by_cases hl : leap y' = true <;> simp [cum, cumL, hl]
  have g1 : 0 ≤ cum y m := (cum_bounds ⟨a3, by omega⟩).1
  have g2 : 0 ≤ cum y' m' := (cum_bounds ⟨c3, by omega⟩).1
  have u1 : cum y (m + 1) ≤ cum y 13 := by
    by_cases e12 : m = 12
    · subst e12; exact Int.le_refl _
    · have := cum_mono (y := y) (a := m) (b := 13) a3 (by omega) (by omega); exact this
  have u2 : cum y' (m' + 1) ≤ cum y' 13 := by
    by_cases e12 : m' = 12
    · subst e12; exact Int.le_refl _
    · have := cum_mono (y := y') (a := m') (b := 13) c3 (by omega) (by omega); exact this
  unfold dayNo at e
  have hy : y = y' := by
    rcases Int.lt_trichotomy y y' with hlt | heq | hlt
    · have := dby_mono hlt; omega
    · exact heq
    · have := dby_mono hlt; omega
  subst hy
  have hm : m = m' := by
    rcases Int.lt_trichotomy m m' with hlt | heq | hlt
    · have := cum_mono (y := y) a3 hlt (by omega); omega
    · exact heq
    · have := cum_mono (y := y) c3 hlt (by omega); omega
  subst hm
  exact ⟨rfl, rfl, by omega⟩

abbrev dateAV (y m d h mi s : Int) : AV := .agg [.int .i64 y, .int .i64 m, .int .i64 d, .int .i64 h, .int .i64 mi, .int .i64 s]
theorem zDate : zT Try.prog 38 = some (.agg [.int .i64 0, .int .i64 0, .int .i64 0, .int .i64 0, .int .i64 0, .int .i64 0]) := by kernel_rfl
theorem szDate : szT Try.prog 38 = some 6 := by kernel_rfl
theorem aggDate : aggT Try.prog 38 = some true := by kernel_rfl

def TW : Tbl := fun g E args => addT (addT (addT nilT 88 (c1 .i64 (fun y => .int .i64 (whole y)) (fun _ => True))) 89 (c2 (fun y m => .int .i64 (long y m)) (fun _ _ => True)))
  86 (c1 .i64 (fun n => .int .i64 (weekday n)) (fun _ => True)) g E args
theorem TW_ok : TblOK Try.prog TW := add1 (add2 (add1 nilT_ok (by decide +kernel) (fun y _ => specWhole y)) (by decide +kernel) (fun y m _ => specLongR y m)) (by decide +kernel) (fun n _ => specWeekdayR n)

theorem year_bound {y : Int} (h : dby y ≤ 3652058) : y ≤ 9999 := by
  by_cases h1 : y < 10000
  · omega
  · have h2 : dby 10000 = 3652059 := by decide
    by_cases h3 : 10000 < y
    · have := dby_mono h3
      have := dby_whole 10000
      have := whole_bounds 10000
      omega
    · have : y = 10000 := by omega
      subst this; omega
theorem of_unique {n y m d : Int} (h : -719162 ≤ n ∧ n ≤ 2932896) (hr : right y m d = true) (e : dayNo y m d = n) : oY n = y ∧ oM n = m ∧ oD n = d := by
  obtain ⟨h1, h2⟩ := of_right h
  exact day_unique h1 hr (h2.trans e.symm)

set_option maxRecDepth 100000 in
set_option maxHeartbeats 2000000 in
theorem specOfR (n : Int) : SpecE Try.prog 55 [] [.int .i64 n] [] (.tuple [dateAV (aY n) (aM n) (aD n) 0 0 0, .bool (inDays n)]) := by
  refine specF0 (C := TW) (wr := false) (D := fun _ => []) (U := fun _ => none) (res := [dateAV (aY n) (aM n) (aD n) 0 0 0, .bool (inDays n)]) mixed TW_ok Try.func55 (nA := 1) (by decide +kernel) rfl (fun _ => rfl) ?_
  simp only [Try.f55, bodyOf, rlOf]
  rw [W_V]
  simp only [TW, go_sem, go_sem, reduceIte, Nat.reduceEqDiff, Nat.reduceAdd, Nat.reduceMul, Nat.reduceDiv, Nat.reduceMod, Nat.reduceSub, Nat.reduceBEq, Nat.reduceLT, Nat.reduceLeDiff, reduceCtorEq, Int.reduceNeg, Int.reduceEq, String.reduceEq, Int.reduceLT, Int.reduceLE, Int.reduceToNat, Int.reduceAdd, Int.reduceMul, Int.reduceSub, uInt, uBool, zDate, szDate, aggDate, Try.underlying38, szInt, aggInt, zInt]
  have hin : inDays n = true ↔ -719162 ≤ n ∧ n ≤ 2932896 := by simp [inDays]
  refine ⟨fun h => ?_, fun h1 h2 => ?_⟩
  · have : inDays n = false := by rw [← Bool.not_eq_true, hin]; omega
    simp [aY, aM, aD, this]
  have hi : inDays n = true := hin.2 ⟨h1, h2⟩
  -- back to the year
  refine VL_inv (X := Int × Int) (fun x => ⟨[(0, .int .i64 x.1), (2, .ptr 48 0 0 1), (4, .int .i64 x.2), (5, .int .i64 1)], [(48, .cells 6 false (dateAV 0 0 0 0 0 0) [dateAV 0 0 0 0 0 0])]⟩)
    (fun x => 1 ≤ x.2 ∧ x.2 ≤ 1970 ∧ x.1 + dby x.2 = n + 719162) (fun x => x.2.toNat) (n, 1970) ?_ ?_ ?_
  · simp only [go_sem, go_sem, reduceIte, Nat.reduceEqDiff, Nat.reduceAdd, Nat.reduceMul, Nat.reduceDiv, Nat.reduceMod, Nat.reduceSub, Nat.reduceBEq, Nat.reduceLT, Nat.reduceLeDiff, reduceCtorEq, Int.reduceNeg, Int.reduceEq, String.reduceEq, Int.reduceLT, Int.reduceLE, Int.reduceToNat, Int.reduceAdd, Int.reduceMul, Int.reduceSub]
    try exact .inl rfl
  · exact ⟨by simp only; omega, by simp only; omega, by simp only [dby_1970]⟩
  rintro ⟨k, y⟩ ⟨i1, i2, i3⟩
  simp only at i1 i2 i3
  have b1 := dby_bounds (y := y) (by omega)
  simp only [TW, go_sem, go_sem, reduceIte, Nat.reduceEqDiff, Nat.reduceAdd, Nat.reduceMul, Nat.reduceDiv, Nat.reduceMod, Nat.reduceSub, Nat.reduceBEq, Nat.reduceLT, Nat.reduceLeDiff, reduceCtorEq, Int.reduceNeg, Int.reduceEq, String.reduceEq, Int.reduceLT, Int.reduceLE, Int.reduceToNat, Int.reduceAdd, Int.reduceMul, Int.reduceSub, uInt, uBool]
  refine ⟨fun hlt => ⟨by omega, ?_, ?_⟩, fun hge => ?_⟩
  · have := whole_bounds (y - 1); omega
  · refine ⟨(k + whole (y - 1), y - 1), ?_⟩
    have hw := dby_whole (y - 1)
    rw [show y - 1 + 1 = y by omega] at hw
    have hy1 : 1 < y := by
      by_cases e : y = 1
      · subst e
        have : dby 1 = 0 := by decide
        omega
      · omega
    exact ⟨⟨rfl, rfl⟩, ⟨by simp only; omega, by simp only; omega, by simp only; omega⟩, by simp only; omega⟩
  -- on to the year
  refine VL_inv (X := Int × Int) (fun x => ⟨[(0, .int .i64 x.1), (2, .ptr 48 0 0 1), (4, .int .i64 x.2), (5, .int .i64 1)], [(48, .cells 6 false (dateAV 0 0 0 0 0 0) [dateAV 0 0 0 0 0 0])]⟩)
    (fun x => 1 ≤ x.2 ∧ 0 ≤ x.1 ∧ x.1 + dby x.2 = n + 719162) (fun x => x.1.toNat) (k, y) ?_ ?_ ?_
  · simp only [go_sem, go_sem, reduceIte, Nat.reduceEqDiff, Nat.reduceAdd, Nat.reduceMul, Nat.reduceDiv, Nat.reduceMod, Nat.reduceSub, Nat.reduceBEq, Nat.reduceLT, Nat.reduceLeDiff, reduceCtorEq, Int.reduceNeg, Int.reduceEq, String.reduceEq, Int.reduceLT, Int.reduceLE, Int.reduceToNat, Int.reduceAdd, Int.reduceMul, Int.reduceSub]
    try exact .inl rfl
  · exact ⟨i1, hge, i3⟩
  rintro ⟨k, y⟩ ⟨j1, j2, j3⟩
  simp only at j1 j2 j3
  have hy9 : 0 ≤ dby y := by unfold dby; omega
  have hy99 := year_bound (y := y) (by omega)
  have wb := whole_bounds y
  simp only [TW, go_sem, go_sem, reduceIte, Nat.reduceEqDiff, Nat.reduceAdd, Nat.reduceMul, Nat.reduceDiv, Nat.reduceMod, Nat.reduceSub, Nat.reduceBEq, Nat.reduceLT, Nat.reduceLeDiff, reduceCtorEq, Int.reduceNeg, Int.reduceEq, String.reduceEq, Int.reduceLT, Int.reduceLE, Int.reduceToNat, Int.reduceAdd, Int.reduceMul, Int.reduceSub, uInt, uBool]
  refine ⟨fun hge => ⟨by omega, by omega, ?_⟩, fun hlt => ?_⟩
  · refine ⟨(k - whole y, y + 1), ?_⟩
    have hw := dby_whole y
    exact ⟨⟨rfl, rfl⟩, ⟨by simp only; omega, by simp only; omega, by simp only; omega⟩, by simp only; omega⟩
  -- on to the month
  have t1 : cum y 13 = whole y := by unfold whole; by_cases hl : leap y = true <;> simp [cum, cumL, hl]
  refine VL_inv (X := Int × Int) (fun x => ⟨[(0, .int .i64 x.1), (2, .ptr 48 0 0 1), (4, .int .i64 y), (5, .int .i64 x.2)], [(48, .cells 6 false (dateAV 0 0 0 0 0 0) [dateAV 0 0 0 0 0 0])]⟩)
    (fun x => 1 ≤ x.2 ∧ x.2 ≤ 12 ∧ 0 ≤ x.1 ∧ x.1 + cum y x.2 = k) (fun x => (13 - x.2).toNat) (k, 1) ?_ ?_ ?_
  · simp only [go_sem, go_sem, reduceIte, Nat.reduceEqDiff, Nat.reduceAdd, Nat.reduceMul, Nat.reduceDiv, Nat.reduceMod, Nat.reduceSub, Nat.reduceBEq, Nat.reduceLT, Nat.reduceLeDiff, reduceCtorEq, Int.reduceNeg, Int.reduceEq, String.reduceEq, Int.reduceLT, Int.reduceLE, Int.reduceToNat, Int.reduceAdd, Int.reduceMul, Int.reduceSub]
    try exact .inl rfl
  · exact ⟨by simp only; omega, by simp only; omega, j2, by simp only [cum_1]; omega⟩
  rintro ⟨r, m⟩ ⟨k1, k2, k3, k4⟩
  simp only at k1 k2 k3 k4
  have cb := cum_bounds (y := y) (m := m) (by omega)
  have cs := cum_step (y := y) (m := m) (by omega)
  have lb := long_le y m
  simp only [TW, go_sem, go_sem, reduceIte, Nat.reduceEqDiff, Nat.reduceAdd, Nat.reduceMul, Nat.reduceDiv, Nat.reduceMod, Nat.reduceSub, Nat.reduceBEq, Nat.reduceLT, Nat.reduceLeDiff, reduceCtorEq, Int.reduceNeg, Int.reduceEq, String.reduceEq, Int.reduceLT, Int.reduceLE, Int.reduceToNat, Int.reduceAdd, Int.reduceMul, Int.reduceSub, uInt, uBool, zDate, szDate, aggDate, Try.underlying38, szInt, aggInt, zInt]
  refine ⟨fun hge => ⟨by omega, by omega, ?_⟩, fun hlt => ?_⟩
  · refine ⟨(r - long y m, m + 1), ?_⟩
    have hm : m ≠ 12 := by
      intro e; subst e
      rw [show (12 : Int) + 1 = 13 by decide] at cs
      omega
    exact ⟨⟨rfl, rfl⟩, ⟨by simp only; omega, by simp only; omega, by simp only; omega, by simp only; omega⟩, by simp only; omega⟩
  have hr : right y m (r + 1) = true := right_iff.2 (by omega)
  obtain ⟨u1, u2, u3⟩ := of_unique (n := n) (y := y) (m := m) (d := r + 1) ⟨h1, h2⟩ hr (by unfold dayNo; omega)
  simp only [aY, aM, aD, hi, if_true, u1, u2, u3]
  exact ⟨by omega, trivial, trivial⟩

def T6 : Tbl := fun g E args => addT (addT T4 78 (c1 .i64 (fun n => .tuple [.int .i64 (aY n), .int .i64 (aM n), .int .i64 (aD n), .bool (inDays n)]) (fun _ => True)))
  55 (c1 .i64 (fun n => .tuple [dateAV (aY n) (aM n) (aD n) 0 0 0, .bool (inDays n)]) (fun _ => True)) g E args
theorem T6_ok : TblOK Try.prog T6 := add1 (add1 T4_ok (by decide +kernel) (fun n _ => specOf n)) (by decide +kernel) (fun n _ => specOfR n)


def within (n most : Int) : Bool := decide (0 ≤ n ∧ n < most)
theorem specWithin (n m : Int) : SpecE Try.prog 80 [] [.int .i64 n, .int .i64 m] [] (.bool (within n m)) := by
  refine specF0 (C := nilT) (wr := false) (D := fun _ => []) (U := fun _ => none) (res := [.bool (within n m)]) mixed nilT_ok Try.func80 (nA := 2) (by decide +kernel) rfl (fun _ => rfl) ?_
  simp only [Try.f80, bodyOf, rlOf]
  rw [W_V]
  simp only [go_sem, go_sem, reduceIte, Nat.reduceEqDiff, Nat.reduceAdd, Nat.reduceMul, Nat.reduceDiv, Nat.reduceMod, Nat.reduceSub, Nat.reduceBEq, Nat.reduceLT, Nat.reduceLeDiff, reduceCtorEq, Int.reduceNeg, Int.reduceEq, String.reduceEq, Int.reduceLT, Int.reduceLE, Int.reduceToNat, Int.reduceAdd, Int.reduceMul, Int.reduceSub, uInt, uBool]
  simp [within]

def T7 : Tbl := fun g E args => addT T6 80 (c2 (fun n m => .bool (within n m)) (fun _ _ => True)) g E args
theorem T7_ok : TblOK Try.prog T7 := add2 T6_ok (by decide +kernel) (fun n m _ => specWithin n m)

def secOk (y m d h mi s : Int) : Bool := right y m d && within h 24 && within mi 60 && within s 60
def secNo (y m d h mi s : Int) : Int := if secOk y m d h mi s = true then dayNo y m d * 86400 + h * 3600 + mi * 60 + s else 0

theorem dayNo_bounds {y m d : Int} (h : right y m d = true) : -719162 ≤ dayNo y m d ∧ dayNo y m d ≤ 2932896 := by
  obtain ⟨h1, h2, h3, h4, h5, h6⟩ := right_bounds h
  have l1 := (right_iff.1 h).2.2.2
  have s1 := cum_step (y := y) (m := m) ⟨h3, h4⟩
  have g1 : 0 ≤ cum y m := (cum_bounds ⟨h3, by omega⟩).1
  have t1 : cum y 13 = whole y := by unfold whole; by_cases hl : leap y = true <;> simp [cum, cumL, hl]
  have u1 : cum y (m + 1) ≤ cum y 13 := by
    by_cases e12 : m = 12
    · subst e12; exact Int.le_refl _
    · have := cum_mono (y := y) (a := m) (b := 13) h3 (by omega) (by omega); exact this
  have w1 := dby_whole y
  have d1 : 0 ≤ dby y := (dby_bounds ⟨h1, by omega⟩).1
  have d2 : dby 10000 = 3652059 := by decide
  have d3 : dby (y + 1) ≤ dby 10000 := by
    by_cases e : y = 9999
    · subst e; exact Int.le_refl _
    · exact dby_mono (by omega)
  unfold dayNo; omega

theorem within_iff {a b : Int} : within a b = true ↔ 0 ≤ a ∧ a < b := by simp [within]
theorem secOk_iff {y m d h mi s : Int} : secOk y m d h mi s = true ↔ right y m d = true ∧ (0 ≤ h ∧ h < 24) ∧ (0 ≤ mi ∧ mi < 60) ∧ (0 ≤ s ∧ s < 60) := by
  simp only [secOk, Bool.and_eq_true, within_iff, and_assoc]
theorem sec_fin {y m d h mi s : Int} (hok : secOk y m d h mi s = true) :
    (-9223372036854775808 ≤ dayAns y m d * 86400 ∧ dayAns y m d * 86400 ≤ 9223372036854775807) ∧ (-9223372036854775808 ≤ h * 3600 ∧ h * 3600 ≤ 9223372036854775807) ∧
    (-9223372036854775808 ≤ dayAns y m d * 86400 + h * 3600 ∧ dayAns y m d * 86400 + h * 3600 ≤ 9223372036854775807) ∧ (-9223372036854775808 ≤ mi * 60 ∧ mi * 60 ≤ 9223372036854775807) ∧
    (-9223372036854775808 ≤ dayAns y m d * 86400 + h * 3600 + mi * 60 ∧ dayAns y m d * 86400 + h * 3600 + mi * 60 ≤ 9223372036854775807) ∧
    (-9223372036854775808 ≤ dayAns y m d * 86400 + h * 3600 + mi * 60 + s ∧ dayAns y m d * 86400 + h * 3600 + mi * 60 + s ≤ 9223372036854775807) ∧
    dayAns y m d * 86400 + h * 3600 + mi * 60 + s = secNo y m d h mi s ∧ true = secOk y m d h mi s := by
  obtain ⟨hr, hh, hm, hs⟩ := secOk_iff.1 hok
  have b1 := dayNo_bounds hr
  simp only [secNo, hok, if_true, dayAns, hr]
  and_intros <;> first | omega | trivial

def T_specSeconds : Tbl := fun g E args => T7 g E args
theorem T_specSeconds_ok : TblOK Try.prog T_specSeconds := T7_ok
set_option maxRecDepth 100000 in
set_option maxHeartbeats 4000000 in
theorem specSeconds (y m d h mi s : Int) : SpecE Try.prog 46 [] [.agg [.int .i64 y, .int .i64 m, .int .i64 d, .int .i64 h, .int .i64 mi, .int .i64 s]] [] (.tuple [.int .i64 (secNo y m d h mi s), .bool (secOk y m d h mi s)]) := by
  refine specF0 (C := T_specSeconds) (wr := false) (D := fun _ => []) (U := fun _ => none) (res := [.int .i64 (secNo y m d h mi s), .bool (secOk y m d h mi s)]) Try.Ty.mixed T_specSeconds_ok Try.func46 (nA := 1) (by decide +kernel) rfl (fun _ => rfl) ?_
  simp only [Try.f46, bodyOf, rlOf]
  rw [W_V]
  simp (config := {maxSteps := 2000000}) only [T_specSeconds, go_sem, reduceIte, Nat.reduceEqDiff, Nat.reduceAdd, Nat.reduceMul, Nat.reduceDiv, Nat.reduceMod, Nat.reduceSub, Nat.reduceBEq, Nat.reduceLT, Nat.reduceLeDiff, reduceCtorEq, Int.reduceNeg, Int.reduceEq, String.reduceEq, Int.reduceLT, Int.reduceLE, Int.reduceToNat, Int.reduceAdd, Int.reduceMul, Int.reduceSub, T7, T6, T4, T3, T2, T1]
  (try simp (config := {maxSteps := 2000000}) only [gimp, impB, isT, go_sem, reduceIte, Nat.reduceEqDiff, Nat.reduceAdd, Nat.reduceMul, Nat.reduceDiv, Nat.reduceMod, Nat.reduceSub, Nat.reduceBEq, Nat.reduceLT, Nat.reduceLeDiff, reduceCtorEq, Int.reduceNeg, Int.reduceEq, String.reduceEq, Int.reduceLT, Int.reduceLE, Int.reduceToNat, Int.reduceAdd, Int.reduceMul, Int.reduceSub])
  try simp only [Bool.not_eq_false']
  refine ⟨fun e => ?_, fun hr hh hm hs => ?_⟩
  · have hok : secOk y m d h mi s = false := by
      unfold secOk
      rcases e with ((e | e) | e) | e <;> simp [e]
    simp [secNo, hok]
  · have hok : secOk y m d h mi s = true := by simp [secOk, hr, hh, hm, hs]
    exact sec_fin hok
def tb_specSeconds : List Blk → List AV → Option (List Blk × AV × Prop)
  | [], [.agg [.int .i64 y, .int .i64 m, .int .i64 d, .int .i64 h, .int .i64 mi, .int .i64 s]] => some ([], .tuple [.int .i64 (secNo y m d h mi s), .bool (secOk y m d h mi s)], True)
  | _, _ => none
theorem tb_specSeconds_ok : ∀ E args E' res p, tb_specSeconds E args = some (E', res, p) → p → SpecE Try.prog 46 E args E' res := by
  intro E args E' res p h hp
  unfold tb_specSeconds at h
  split at h
  · simp only [Option.some.injEq, Prod.mk.injEq] at h
    obtain ⟨rfl, rfl, rfl⟩ := h
    exact (specSeconds _ _ _ _ _ _)
  · cases h

def T_specSecondsR : Tbl := fun g E args => T7 g E args
theorem T_specSecondsR_ok : TblOK Try.prog T_specSecondsR := T7_ok
set_option maxRecDepth 100000 in
set_option maxHeartbeats 4000000 in
theorem specSecondsR (y m d h mi s : Int) : SpecE Try.prog 50 [] [.agg [.int .i64 y, .int .i64 m, .int .i64 d, .int .i64 h, .int .i64 mi, .int .i64 s]] [] (.tuple [.int .i64 (secNo y m d h mi s), .bool (secOk y m d h mi s)]) := by
  refine specF0 (C := T_specSecondsR) (wr := false) (D := fun _ => []) (U := fun _ => none) (res := [.int .i64 (secNo y m d h mi s), .bool (secOk y m d h mi s)]) Try.Ty.mixed T_specSecondsR_ok Try.func50 (nA := 1) (by decide +kernel) rfl (fun _ => rfl) ?_
  simp only [Try.f50, bodyOf, rlOf]
  rw [W_V]
  simp (config := {maxSteps := 2000000}) only [T_specSecondsR, go_sem, reduceIte, Nat.reduceEqDiff, Nat.reduceAdd, Nat.reduceMul, Nat.reduceDiv, Nat.reduceMod, Nat.reduceSub, Nat.reduceBEq, Nat.reduceLT, Nat.reduceLeDiff, reduceCtorEq, Int.reduceNeg, Int.reduceEq, String.reduceEq, Int.reduceLT, Int.reduceLE, Int.reduceToNat, Int.reduceAdd, Int.reduceMul, Int.reduceSub, T7, T6, T4, T3, T2, T1]
  (try simp (config := {maxSteps := 2000000}) only [gimp, impB, isT, go_sem, reduceIte, Nat.reduceEqDiff, Nat.reduceAdd, Nat.reduceMul, Nat.reduceDiv, Nat.reduceMod, Nat.reduceSub, Nat.reduceBEq, Nat.reduceLT, Nat.reduceLeDiff, reduceCtorEq, Int.reduceNeg, Int.reduceEq, String.reduceEq, Int.reduceLT, Int.reduceLE, Int.reduceToNat, Int.reduceAdd, Int.reduceMul, Int.reduceSub])
  try simp only [Bool.not_eq_false']
  refine ⟨fun e => ?_, fun hr h1 h2 h3 h4 h5 h6 => ?_⟩
  · have hok : secOk y m d h mi s = false := by
      rw [← Bool.not_eq_true, secOk_iff]
      intro hk
      rcases e with (((((e | e) | e) | e) | e) | e) | e
      · rw [e] at hk; exact absurd hk.1 (by simp)
      all_goals omega
    simp [secNo, hok]
  · exact sec_fin (secOk_iff.2 ⟨hr, by omega, by omega, by omega⟩)
def tb_specSecondsR : List Blk → List AV → Option (List Blk × AV × Prop)
  | [], [.agg [.int .i64 y, .int .i64 m, .int .i64 d, .int .i64 h, .int .i64 mi, .int .i64 s]] => some ([], .tuple [.int .i64 (secNo y m d h mi s), .bool (secOk y m d h mi s)], True)
  | _, _ => none
theorem tb_specSecondsR_ok : ∀ E args E' res p, tb_specSecondsR E args = some (E', res, p) → p → SpecE Try.prog 50 E args E' res := by
  intro E args E' res p h hp
  unfold tb_specSecondsR at h
  split at h
  · simp only [Option.some.injEq, Prod.mk.injEq] at h
    obtain ⟨rfl, rfl, rfl⟩ := h
    exact (specSecondsR _ _ _ _ _ _)
  · cases h

/-! dates -/
def dQ (t : Int) : Int := t / 86400
def dR (t : Int) : Int := t % 86400
def dIn (t v : Int) : Int := if inDays (dQ t) = true then v else 0
theorem tdiv_cases (a b : Int) (hb : 0 < b) : (0 ≤ a ∧ a.tdiv b = a / b ∧ a.tmod b = a % b) ∨ (a < 0 ∧ a.tdiv b = -((-a) / b) ∧ a.tmod b = -((-a) % b)) := by
  rcases Int.lt_or_le a 0 with h | h
  · refine .inr ⟨h, ?_, ?_⟩
    · rw [show a = -(-a) by omega, Int.neg_tdiv, quo_nn _ (by omega), Int.neg_neg]
    · rw [show a = -(-a) by omega, Int.neg_tmod, rem_nn _ (by omega), Int.neg_neg]
  · exact .inl ⟨h, quo_nn _ h, rem_nn _ h⟩
theorem date_pos {t : Int} (h : 0 ≤ t.tmod 86400) : t.tdiv 86400 = dQ t ∧ t.tmod 86400 = dR t := by
  unfold dQ dR
  rcases tdiv_cases t 86400 (by omega) with ⟨h1, h2, h3⟩ | ⟨h1, h2, h3⟩ <;> rw [h3] at h <;> rw [h2, h3] <;> omega
theorem date_neg {t : Int} (h : t.tmod 86400 < 0) : t.tdiv 86400 - 1 = dQ t ∧ t.tmod 86400 + 86400 = dR t ∧ t < 0 := by
  unfold dQ dR
  rcases tdiv_cases t 86400 (by omega) with ⟨h1, h2, h3⟩ | ⟨h1, h2, h3⟩ <;> rw [h3] at h <;> rw [h2, h3] <;> omega
theorem dR_bounds (t : Int) : 0 ≤ dR t ∧ dR t < 86400 := by unfold dR; omega
theorem dQ_bounds {t : Int} (h : -9223372036854775808 ≤ t ∧ t ≤ 9223372036854775807) : -106751991167302 ≤ dQ t ∧ dQ t ≤ 106751991167302 := by unfold dQ; omega
theorem day_parts {r : Int} (h : 0 ≤ r ∧ r < 86400) : r.tdiv 3600 = r / 3600 ∧ r.tdiv 60 = r / 60 ∧ (r / 60).tmod 60 = r / 60 % 60 ∧ r.tmod 60 = r % 60 ∧ r.tmod 3600 = r % 3600 ∧ (r % 3600).tdiv 60 = r / 60 % 60 :=
  ⟨quo_nn _ h.1, quo_nn _ h.1, rem_nn _ (by omega), rem_nn _ h.1, rem_nn _ h.1, by rw [quo_nn _ (by omega)]; omega⟩

def T_specDate : Tbl := fun g E args => T7 g E args
theorem T_specDate_ok : TblOK Try.prog T_specDate := T7_ok
set_option maxRecDepth 100000 in
set_option maxHeartbeats 4000000 in
theorem specDate (t : Int) (ht : inR .i64 t) : SpecE Try.prog 42 [] [.int .i64 t] [] (.tuple [dateAV (aY (dQ t)) (aM (dQ t)) (aD (dQ t)) (dIn t (dR t / 3600)) (dIn t (dR t / 60 % 60)) (dIn t (dR t % 60)), .bool (inDays (dQ t))]) := by
  refine specF0 (C := T_specDate) (wr := false) (D := fun _ => []) (U := fun _ => none) (res := [dateAV (aY (dQ t)) (aM (dQ t)) (aD (dQ t)) (dIn t (dR t / 3600)) (dIn t (dR t / 60 % 60)) (dIn t (dR t % 60)), .bool (inDays (dQ t))]) Try.Ty.mixed T_specDate_ok Try.func42 (nA := 1) (by decide +kernel) rfl (fun _ => rfl) ?_
  simp only [Try.f42, bodyOf, rlOf]
  rw [W_V]
  simp (config := {maxSteps := 2000000}) only [T_specDate, go_sem, reduceIte, Nat.reduceEqDiff, Nat.reduceAdd, Nat.reduceMul, Nat.reduceDiv, Nat.reduceMod, Nat.reduceSub, Nat.reduceBEq, Nat.reduceLT, Nat.reduceLeDiff, reduceCtorEq, Int.reduceNeg, Int.reduceEq, String.reduceEq, Int.reduceLT, Int.reduceLE, Int.reduceToNat, Int.reduceAdd, Int.reduceMul, Int.reduceSub, T7, T6, T4, T3, T2, T1]
  (try simp (config := {maxSteps := 2000000}) only [gimp, impB, isT, go_sem, reduceIte, Nat.reduceEqDiff, Nat.reduceAdd, Nat.reduceMul, Nat.reduceDiv, Nat.reduceMod, Nat.reduceSub, Nat.reduceBEq, Nat.reduceLT, Nat.reduceLeDiff, reduceCtorEq, Int.reduceNeg, Int.reduceEq, String.reduceEq, Int.reduceLT, Int.reduceLE, Int.reduceToNat, Int.reduceAdd, Int.reduceMul, Int.reduceSub])
  simp only [inR] at ht
  have hb := dR_bounds t
  have hd := dQ_bounds ht
  obtain ⟨p1, p2, p3, p4, p5, p6⟩ := day_parts hb
  have fin : ∀ (b : Bool), inDays (dQ t) = b → b = false → AV.agg [AV.int IntKind.i64 0, AV.int IntKind.i64 0, AV.int IntKind.i64 0, AV.int IntKind.i64 0, AV.int IntKind.i64 0, AV.int IntKind.i64 0] =
      dateAV (aY (dQ t)) (aM (dQ t)) (aD (dQ t)) (dIn t (dR t / 3600)) (dIn t (dR t / 60 % 60)) (dIn t (dR t % 60)) := by
    rintro b h rfl
    simp [aY, aM, aD, dIn, h]
  refine ⟨?_, fun hneg => ?_, fun hpos => ?_⟩
  · rcases Int.lt_or_le (t.tmod 86400) 0 with h | h
    · have := date_neg h; omega
    · have := date_pos h; omega
  · obtain ⟨e1, e2, _⟩ := date_neg hneg
    rw [e1, e2, p1, p2, p3, p4]
    refine ⟨by omega, by omega, fun hf => ⟨fin _ rfl hf, hf.symm⟩, fun hf => ?_⟩
    have : inDays (dQ t) = true := by simpa using hf
    refine ⟨by omega, by omega, ?_, this.symm⟩
    simp [dIn, this]
  · obtain ⟨e1, e2⟩ := date_pos hpos
    rw [e1, e2, p1, p2, p3, p4]
    refine ⟨fun hf => ⟨fin _ rfl hf, hf.symm⟩, fun hf => ?_⟩
    have : inDays (dQ t) = true := by simpa using hf
    refine ⟨by omega, by omega, ?_, this.symm⟩
    simp [dIn, this]
def tb_specDate : List Blk → List AV → Option (List Blk × AV × Prop)
  | [], [.int .i64 t] => some ([], .tuple [dateAV (aY (dQ t)) (aM (dQ t)) (aD (dQ t)) (dIn t (dR t / 3600)) (dIn t (dR t / 60 % 60)) (dIn t (dR t % 60)), .bool (inDays (dQ t))], (inR .i64 t))
  | _, _ => none
theorem tb_specDate_ok : ∀ E args E' res p, tb_specDate E args = some (E', res, p) → p → SpecE Try.prog 42 E args E' res := by
  intro E args E' res p h hp
  unfold tb_specDate at h
  split at h
  · simp only [Option.some.injEq, Prod.mk.injEq] at h
    obtain ⟨rfl, rfl, rfl⟩ := h
    exact (specDate _ hp)
  · cases h

def T_specDateR : Tbl := fun g E args => T7 g E args
theorem T_specDateR_ok : TblOK Try.prog T_specDateR := T7_ok
set_option maxRecDepth 100000 in
set_option maxHeartbeats 4000000 in
theorem specDateR (t : Int) (ht : inR .i64 t) : SpecE Try.prog 21 [] [.int .i64 t] [] (.tuple [dateAV (aY (dQ t)) (aM (dQ t)) (aD (dQ t)) (dIn t (dR t / 3600)) (dIn t (dR t / 60 % 60)) (dIn t (dR t % 60)), .bool (inDays (dQ t))]) := by
  refine specF0 (C := T_specDateR) (wr := false) (D := fun _ => []) (U := fun _ => none) (res := [dateAV (aY (dQ t)) (aM (dQ t)) (aD (dQ t)) (dIn t (dR t / 3600)) (dIn t (dR t / 60 % 60)) (dIn t (dR t % 60)), .bool (inDays (dQ t))]) Try.Ty.mixed T_specDateR_ok Try.func21 (nA := 1) (by decide +kernel) rfl (fun _ => rfl) ?_
  simp only [Try.f21, bodyOf, rlOf]
  rw [W_V]
  simp (config := {maxSteps := 2000000}) only [T_specDateR, go_sem, reduceIte, Nat.reduceEqDiff, Nat.reduceAdd, Nat.reduceMul, Nat.reduceDiv, Nat.reduceMod, Nat.reduceSub, Nat.reduceBEq, Nat.reduceLT, Nat.reduceLeDiff, reduceCtorEq, Int.reduceNeg, Int.reduceEq, String.reduceEq, Int.reduceLT, Int.reduceLE, Int.reduceToNat, Int.reduceAdd, Int.reduceMul, Int.reduceSub, T7, T6, T4, T3, T2, T1]
  (try simp (config := {maxSteps := 2000000}) only [gimp, impB, isT, go_sem, reduceIte, Nat.reduceEqDiff, Nat.reduceAdd, Nat.reduceMul, Nat.reduceDiv, Nat.reduceMod, Nat.reduceSub, Nat.reduceBEq, Nat.reduceLT, Nat.reduceLeDiff, reduceCtorEq, Int.reduceNeg, Int.reduceEq, String.reduceEq, Int.reduceLT, Int.reduceLE, Int.reduceToNat, Int.reduceAdd, Int.reduceMul, Int.reduceSub])
  simp only [inR] at ht
  have hb := dR_bounds t
  have hd := dQ_bounds ht
  obtain ⟨p1, p2, p3, p4, p5, p6⟩ := day_parts hb
  have out : ∀ {b : Bool}, inDays (dQ t) = b → (b = true → dateAV (aY (dQ t)) (aM (dQ t)) (aD (dQ t)) (dR t / 3600) (dR t / 60 % 60) (dR t % 60) =
      dateAV (aY (dQ t)) (aM (dQ t)) (aD (dQ t)) (dIn t (dR t / 3600)) (dIn t (dR t / 60 % 60)) (dIn t (dR t % 60))) ∧ (b = false → dateAV (aY (dQ t)) (aM (dQ t)) (aD (dQ t)) 0 0 0 =
      dateAV (aY (dQ t)) (aM (dQ t)) (aD (dQ t)) (dIn t (dR t / 3600)) (dIn t (dR t / 60 % 60)) (dIn t (dR t % 60))) := by
    rintro b rfl
    exact ⟨fun h => by simp [dIn, h], fun h => by simp [dIn, h]⟩
  refine ⟨fun hneg => ?_, fun hpos => ?_⟩
  · obtain ⟨e1, e2, e3⟩ := date_neg hneg
    rw [e1, e2, p1, p4, p5, p6]
    refine ⟨by omega, by omega, fun _ _ => ⟨by omega, fun hf => ⟨by omega, by omega, (out rfl).1 hf, rfl⟩, fun hf => ⟨(out rfl).2 hf, rfl⟩⟩, fun hf => ?_⟩
    exfalso
    simp [e3] at hf
    omega
  · obtain ⟨e1, e2⟩ := date_pos hpos
    rw [e1, e2, p1, p4, p5, p6]
    refine ⟨by omega, fun h1 h2 => ?_, fun _ => ⟨fun hf => ⟨by omega, by omega, (out rfl).1 hf, rfl⟩, fun hf => ⟨(out rfl).2 hf, rfl⟩⟩⟩
    exfalso
    rcases tdiv_cases t 86400 (by omega) with ⟨a, b, c⟩ | ⟨a, b, c⟩ <;> omega
def tb_specDateR : List Blk → List AV → Option (List Blk × AV × Prop)
  | [], [.int .i64 t] => some ([], .tuple [dateAV (aY (dQ t)) (aM (dQ t)) (aD (dQ t)) (dIn t (dR t / 3600)) (dIn t (dR t / 60 % 60)) (dIn t (dR t % 60)), .bool (inDays (dQ t))], (inR .i64 t))
  | _, _ => none
theorem tb_specDateR_ok : ∀ E args E' res p, tb_specDateR E args = some (E', res, p) → p → SpecE Try.prog 21 E args E' res := by
  intro E args E' res p h hp
  unfold tb_specDateR at h
  split at h
  · simp only [Option.some.injEq, Prod.mk.injEq] at h
    obtain ⟨rfl, rfl, rfl⟩ := h
    exact (specDateR _ hp)
  · cases h


theorem in_iff {n : Int} : inDays n = true ↔ -719162 ≤ n ∧ n ≤ 2932896 := by simp [inDays]
theorem day_back {n : Int} (h : inDays n = true) : dayAns (aY n) (aM n) (aD n) = n ∧ right (aY n) (aM n) (aD n) = true := by
  obtain ⟨h1, h2⟩ := of_right (in_iff.1 h)
  simp only [aY, aM, aD, h, if_true, dayAns, h1, h2, and_self]
theorem at_unique {n y m d : Int} (h : inDays n = true) (hr : right y m d = true) (e : dayNo y m d = n) : aY n = y ∧ aM n = m ∧ aD n = d := by
  obtain ⟨h1, h2, h3⟩ := of_unique (in_iff.1 h) hr e
  simp only [aY, aM, aD, h, if_true, h1, h2, h3, and_self]
theorem sec_back {t : Int} (h : inDays (dQ t) = true) : secNo (aY (dQ t)) (aM (dQ t)) (aD (dQ t)) (dIn t (dR t / 3600)) (dIn t (dR t / 60 % 60)) (dIn t (dR t % 60)) = t ∧
    secOk (aY (dQ t)) (aM (dQ t)) (aD (dQ t)) (dIn t (dR t / 3600)) (dIn t (dR t / 60 % 60)) (dIn t (dR t % 60)) = true := by
  obtain ⟨h1, h2⟩ := day_back h
  have hb := dR_bounds t
  have hd : dayNo (aY (dQ t)) (aM (dQ t)) (aD (dQ t)) = dQ t := by simpa [dayAns, h2] using h1
  have hok : secOk (aY (dQ t)) (aM (dQ t)) (aD (dQ t)) (dIn t (dR t / 3600)) (dIn t (dR t / 60 % 60)) (dIn t (dR t % 60)) = true := by
    rw [secOk_iff]
    simp only [dIn, h, if_true]
    exact ⟨h2, by omega, by omega, by omega⟩
  refine ⟨?_, hok⟩
  have e1 : dQ t * 86400 + dR t = t := by unfold dQ dR; omega
  unfold secNo
  rw [if_pos hok, hd]
  simp only [dIn, if_pos h]
  omega
theorem day_last {n : Int} (h : inDays n = true) (h' : inDays (n + 1) = false) : aY n = 9999 ∧ aM n = 12 ∧ aD n = 31 := by
  have h1 := in_iff.1 h
  have h2 : ¬ (-719162 ≤ n + 1 ∧ n + 1 ≤ 2932896) := by rw [← in_iff, h']; simp
  have e : n = 2932896 := by omega
  subst e
  exact at_unique h (by decide +kernel) (by decide +kernel)
theorem day_next {n : Int} (h : inDays n = true) (h' : inDays (n + 1) = true) :
    (((aY (n + 1) = aY n ∧ aM (n + 1) = aM n) ∧ aD (n + 1) = aD n + 1) ∧ aD n < long (aY n) (aM n) ∨ ((aY (n + 1) = aY n ∧ aM (n + 1) = aM n + 1) ∧ aD (n + 1) = 1) ∧ aD n = long (aY n) (aM n)) ∨
      (((aY (n + 1) = aY n + 1 ∧ aM (n + 1) = 1) ∧ aD (n + 1) = 1) ∧ aM n = 12) ∧ aD n = 31 := by
  obtain ⟨h1, h2⟩ := day_back h
  have hd : dayNo (aY n) (aM n) (aD n) = n := by simpa [dayAns, h2] using h1
  obtain ⟨a1, a2, a3, a4, a5, a6⟩ := right_bounds h2
  have hl := (right_iff.1 h2).2.2.2
  generalize aY n = y at *
  generalize aM n = m at *
  generalize aD n = d at *
  have b' := in_iff.1 h'
  by_cases hlt : d < long y m
  · obtain ⟨e1, e2, e3⟩ := at_unique (y := y) (m := m) (d := d + 1) h' (right_iff.2 ⟨a1, a2, by omega, by omega⟩) (by unfold dayNo at *; omega)
    exact .inl (.inl ⟨⟨⟨e1, e2⟩, e3⟩, hlt⟩)
  · have he : d = long y m := by omega
    have cs := cum_step (y := y) (m := m) ⟨a3, a4⟩
    by_cases hm : m = 12
    · subst hm
      have h31 : long y 12 = 31 := by simp [long, lens]
      have hw := dby_whole y
      have t1 : cum y 13 = whole y := by unfold whole; by_cases hl : leap y = true <;> simp [cum, cumL, hl]
      have c1 := cum_1 (y + 1)
      have e12 : (12 : Int) + 1 = 13 := by decide
      rw [e12] at cs
      have hno : dayNo (y + 1) 1 1 = n + 1 := by unfold dayNo at *; omega
      have hy : y + 1 ≤ 9999 := by
        have := year_bound (y := y + 1) (by unfold dayNo at hno; omega)
        omega
      obtain ⟨e1, e2, e3⟩ := at_unique (y := y + 1) (m := 1) (d := 1) h' (right_iff.2 ⟨by omega, hy, by omega, by simp [long, lens]⟩) hno
      exact .inr ⟨⟨⟨⟨e1, e2⟩, e3⟩, rfl⟩, by omega⟩
    · have hlo : 1 ≤ long y (m + 1) := by
        have : m + 1 = 2 ∨ m + 1 = 3 ∨ m + 1 = 4 ∨ m + 1 = 5 ∨ m + 1 = 6 ∨ m + 1 = 7 ∨ m + 1 = 8 ∨ m + 1 = 9 ∨ m + 1 = 10 ∨ m + 1 = 11 ∨ m + 1 = 12 := by omega
        rcases this with e | e | e | e | e | e | e | e | e | e | e <;> rw [e] <;> by_cases hl : leap y = true <;> simp [long, lens, hl]
      obtain ⟨e1, e2, e3⟩ := at_unique (y := y) (m := m + 1) (d := 1) h' (right_iff.2 ⟨a1, a2, by omega, hlo⟩) (by unfold dayNo at *; omega)
      exact .inl (.inr ⟨⟨⟨e1, e2⟩, e3⟩, he⟩)

end Go.Proofs.Try.Civil
