/- octet: texts without blanks at their ends: the laws. No condition. -/
import Derived.Test.YtlkfjkimnkhelaaDoorOctM
set_option linter.unusedVariables false
set_option linter.unusedSimpArgs false
namespace Go.Mdl
open Go Go.Abs

theorem getD_cons {s : List UInt8} (h : 0 < s.length) : s = s.getD 0 0 :: s.drop 1 := by
  cases s with
  | nil => simp at h
  | cons a l => simp
theorem trimL_cons {s : List UInt8} (h : 0 < s.length) (hb : blankB (s.getD 0 0) = true) : trimL (s.drop 1) = trimL s := by
  cases s with
  | nil => simp at h
  | cons a l => simp at hb; simp [trimL, hb]
theorem trimL_none {s : List UInt8} (h : 0 < s.length → blankB (s.getD 0 0) = false) : trimL s = s := by
  cases s with
  | nil => rfl
  | cons a l => have := h (by simp); simp at this; simp [trimL, this]
theorem getLast_drop {s : List UInt8} (h : 0 < s.length) : s = s.take (s.length - 1) ++ [s.getD (s.length - 1) 0] := by
  rw [← take_succ_getD 0 (by omega), List.take_of_length_le (by omega)]
theorem trimR_snoc {s : List UInt8} (h : 0 < s.length) (hb : blankB (s.getD (s.length - 1) 0) = true) : trimR (s.take (s.length - 1)) = trimR s := by
  have e := getLast_drop h
  generalize s.take (s.length - 1) = t at *
  generalize s.getD (s.length - 1) 0 = c at *
  subst e
  simp [trimR, hb]
theorem trimR_none {s : List UInt8} (h : 0 < s.length → blankB (s.getD (s.length - 1) 0) = false) : trimR s = s := by
  by_cases h0 : 0 < s.length
  · have e := getLast_drop h0
    have hb := h h0
    generalize s.take (s.length - 1) = t at *
    generalize s.getD (s.length - 1) 0 = c at *
    subst e
    simp [trimR, hb]
  · have : s = [] := List.length_eq_zero_iff.1 (by omega)
    subst this; rfl
/-- Between two places. -/
theorem trimR_between {s : List UInt8} {x y : Nat} (hx : x < y) (hy : y ≤ s.length) (hb : blankB (s.getD (y - 1) 0) = true) : trimR ((s.take (y - 1)).drop x) = trimR ((s.take y).drop x) := by
  have h1 : ((s.take y).drop x).length = y - x := by simp; omega
  have h2 : ((s.take y).drop x).getD (y - x - 1) 0 = s.getD (y - 1) 0 := by
    simp only [List.getD_eq_getElem?_getD, List.getElem?_drop, List.getElem?_take]
    rw [if_pos (by omega), show x + (y - x - 1) = y - 1 by omega]
  have h3 : ((s.take y).drop x).take (y - x - 1) = (s.take (y - 1)).drop x := by
    rw [List.take_drop, List.take_take, show x + (y - x - 1) = y - 1 by omega, Nat.min_eq_left (by omega)]
  have := trimR_snoc (s := (s.take y).drop x) (by omega) (by rw [h1, h2]; exact hb)
  rw [h1, h3] at this
  exact this
theorem trimR_stop {s : List UInt8} {x y : Nat} (hx : x ≤ y) (hy : y ≤ s.length) (hb : x < y → blankB (s.getD (y - 1) 0) = false) : trimR ((s.take y).drop x) = (s.take y).drop x := by
  refine trimR_none (fun h => ?_)
  have h1 : ((s.take y).drop x).length = y - x := by simp; omega
  rw [h1] at h ⊢
  have h2 : ((s.take y).drop x).getD (y - x - 1) 0 = s.getD (y - 1) 0 := by
    simp only [List.getD_eq_getElem?_getD, List.getElem?_drop, List.getElem?_take]
    rw [if_pos (by omega), show x + (y - x - 1) = y - 1 by omega]
  rw [h2]; exact hb (by omega)
theorem drop_getD0 {s : List UInt8} {x : Nat} : (s.drop x).getD 0 0 = s.getD x 0 := by
  simp [List.getD_eq_getElem?_getD, List.getElem?_drop]
end Go.Mdl
