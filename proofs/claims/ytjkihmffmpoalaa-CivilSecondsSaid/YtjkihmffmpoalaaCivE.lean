/- civil: the day of a place, the plain law. No condition. -/
import Derived.Test.YtjkihmffmpoalaaCivD
set_option linter.unusedVariables false
set_option linter.unusedSimpArgs false
namespace Go.Proofs.Try.Civil
open Go Go.Abs Go.Proofs

theorem o_key {n : Int} (h : -719162 ≤ n ∧ n ≤ 2932896) : oY0 n * 365 + oY0 n / 4 - oY0 n / 100 + oY0 n / 400 + oR3 n = n + 719468 := by
  obtain ⟨b1, b2, b3, b4, b5, b6, b7, b8, b9, b10, b11, b12, b13, b14, b15, b16⟩ := o_bounds h
  have e1 : oY0 n = oE n * 400 + (oC n * 100 + oF n * 4 + oO n) := rfl
  have e2 : oR3 n = oR2 n - oO n * 365 := rfl
  have e3 : oR2 n = oR1 n - oF n * 1461 := rfl
  have e4 : oR1 n = oR0 n - oC n * 36524 := rfl
  have e5 : n + 719468 = oE n * 146097 + oR0 n := by unfold oE oR0; omega
  have q4 : oY0 n / 4 = oE n * 100 + oC n * 25 + oF n := by omega
  have q100 : oY0 n / 100 = oE n * 4 + oC n := by omega
  have q400 : oY0 n / 400 = oE n := by omega
  rw [q4, q100, q400]
  omega
theorem o_last {n : Int} (h : -719162 ≤ n ∧ n ≤ 2932896) : oR3 n = 365 → oO n = 3 ∧ (oF n = 24 → oC n = 3) := by
  obtain ⟨b1, b2, b3, b4, b5, b6, b7, b8, b9, b10, b11, b12, b13, b14, b15, b16⟩ := o_bounds h
  have e2 : oR3 n = oR2 n - oO n * 365 := rfl
  have e3 : oR2 n = oR1 n - oF n * 1461 := rfl
  have e4 : oR1 n = oR0 n - oC n * 36524 := rfl
  have e6 : oO n = min (oR2 n / 365) 3 := rfl
  have e7 : oC n = min (oR0 n / 36524) 3 := rfl
  omega

theorem of_right {n : Int} (h : -719162 ≤ n ∧ n ≤ 2932896) : right (oY n) (oM n) (oD n) = true ∧ dayNo (oY n) (oM n) (oD n) = n := by
  obtain ⟨b1, b2, b3, b4, b5, b6, b7, b8, b9, b10, b11, b12, b13, b14, b15, b16⟩ := o_bounds h
  have hk := o_key h
  have hl := o_last h
  have e1 : oY0 n = oE n * 400 + (oC n * 100 + oF n * 4 + oO n) := rfl
  have eP : oP n = (5 * oR3 n + 2) / 153 := rfl
  have eD : oD n = oR3 n - (153 * oP n + 2) / 5 + 1 := rfl
  have eM : oM n = (oP n + 2) % 12 + 1 := rfl
  have bY : 0 ≤ oY0 n ∧ oY0 n ≤ 9999 := by omega
  rw [right_iff]
  by_cases h10 : 10 ≤ oP n
  · have eY : oY n = oY0 n + 1 := by unfold oY; rw [if_pos h10]
    have hP : oP n = 10 ∨ oP n = 11 := by omega
    have hm : oM n = oP n - 9 := by omega
    have hd := day_early (y := oY0 n + 1) (m := oP n - 9) (d := oD n) (by omega)
    rw [show oY0 n + 1 - 1 = oY0 n by omega, show oP n - 9 + 9 = oP n by omega] at hd
    rw [eY, hm]
    refine ⟨⟨by omega, by omega, by omega, ?_⟩, by rw [← hd]; omega⟩
    rcases hP with hP | hP
    · rw [hP]; simp [long, lens]; omega
    · rw [hP]
      by_cases hlp : leap (oY0 n + 1) = true
      · simp [long, hlp]; omega
      · have : oR3 n ≠ 365 := by
          intro h365
          obtain ⟨k1, k2⟩ := hl h365
          apply hlp
          have k4 : (oY0 n + 1) % 4 = 0 := by omega
          have k100 : (oY0 n + 1) % 100 ≠ 0 ∨ (oY0 n + 1) % 400 = 0 := by omega
          unfold leap
          rcases k100 with k | k <;> simp [k4, k]
        simp [long, hlp, lens]; omega
  · have eY : oY n = oY0 n := by unfold oY; rw [if_neg h10]
    have bP : 0 ≤ oP n := by omega
    have hm : oM n = oP n + 3 := by omega
    have hd := day_late (y := oY0 n) (m := oP n + 3) (d := oD n) (by omega)
    rw [show oP n + 3 - 3 = oP n by omega] at hd
    rw [eY, hm]
    refine ⟨⟨by omega, by omega, by omega, ?_⟩, by rw [← hd]; omega⟩
    have hP : oP n = 0 ∨ oP n = 1 ∨ oP n = 2 ∨ oP n = 3 ∨ oP n = 4 ∨ oP n = 5 ∨ oP n = 6 ∨ oP n = 7 ∨ oP n = 8 ∨ oP n = 9 := by omega
    rcases hP with hP | hP | hP | hP | hP | hP | hP | hP | hP | hP <;> rw [hP] <;> simp [long, lens] <;> omega

theorem dby_mono {a b : Int} (h : a < b) : dby (a + 1) ≤ dby b := by unfold dby; omega
theorem cum_mono {y a b : Int} (h1 : 1 ≤ a) (h : a < b) (h2 : b ≤ 13) : cum y (a + 1) ≤ cum y b := by
  have key : ∀ j : Nat, a + 1 + j ≤ 13 → cum y (a + 1) ≤ cum y (a + 1 + j) := by
    intro j
    induction j with
    | zero => intro _; simp
    | succ j ih =>
      intro hj
      have h3 := ih (by omega)
      have h4 := cum_step (y := y) (m := a + 1 + j) (by omega)
      have h5 := (long_le y (a + 1 + j)).2.1
      rw [show a + 1 + ((j + 1 : Nat) : Int) = a + 1 + j + 1 by omega]
      omega
  have := key (b - (a + 1)).toNat (by omega)
  rwa [show a + 1 + (((b - (a + 1)).toNat : Nat) : Int) = b by omega] at this

/-- One place, one day. -/
theorem day_unique {y m d y' m' d' : Int} (h : right y m d = true) (h' : right y' m' d' = true) (e : dayNo y m d = dayNo y' m' d') : y = y' ∧ m = m' ∧ d = d' := by
  obtain ⟨a1, a2, a3, a4, a5, a6⟩ := right_bounds h
  obtain ⟨c1, c2, c3, c4, c5, c6⟩ := right_bounds h'
  have l1 := (right_iff.1 h).2.2.2
  have l2 := (right_iff.1 h').2.2.2
  have s1 := cum_step (y := y) (m := m) ⟨a3, a4⟩
  have s2 := cum_step (y := y') (m := m') ⟨c3, c4⟩
  have w1 := dby_whole y
  have w2 := dby_whole y'
  have t1 : cum y 13 = whole y := by unfold whole; by_cases hl : leap y = true <;> simp [cum, cumL, hl]
  have t2 : cum y' 13 = whole y' := by unfold whole; by_cases hl : leap y' = true <;> simp [cum, cumL, hl]
  have g1 : 0 ≤ cum y m := (cum_bounds ⟨a3, by omega⟩).1
  have g2 : 0 ≤ cum y' m' := (cum_bounds ⟨c3, by omega⟩).1
  have u1 : cum y (m + 1) ≤ cum y 13 := by
    by_cases e12 : m = 12
    · subst e12; exact Int.le_refl _
    · have := cum_mono (y := y) (a := m) (b := 13) a3 (by omega) (by omega); exact this
  have u2 : cum y' (m' + 1) ≤ cum y' 13 := by
    by_cases e12 : m' = 12
    · subst e12; exact Int.le_refl _
    · have := cum_mono (y := y') (a := m') (b := 13) c3 (by omega) (by omega); exact this
  unfold dayNo at e
  have hy : y = y' := by
    rcases Int.lt_trichotomy y y' with hlt | heq | hlt
    · have := dby_mono hlt; omega
    · exact heq
    · have := dby_mono hlt; omega
  subst hy
  have hm : m = m' := by
    rcases Int.lt_trichotomy m m' with hlt | heq | hlt
    · have := cum_mono (y := y) a3 hlt (by omega); omega
    · exact heq
    · have := cum_mono (y := y) c3 hlt (by omega); omega
  subst hm
  exact ⟨rfl, rfl, by omega⟩
end Go.Proofs.Try.Civil
