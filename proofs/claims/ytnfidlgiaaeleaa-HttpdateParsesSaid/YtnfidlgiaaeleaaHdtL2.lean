/- httpdate: the runs of the three patterns, by places (printed by wip/tools/hdt.py). No condition. -/
import Derived.Test.YtnfidlgiaaeleaaHdtL
set_option linter.unusedVariables false
set_option linter.unusedSimpArgs false
namespace Go.Mdl
open Go Go.Abs

theorem dd (s : List UInt8) (a b : Nat) : (s.drop a).drop b = s.drop (a + b) := by rw [List.drop_drop]
theorem whole_fail {s pat : List UInt8} (h : (runS pat (rd0 s)).bad = true) : (wholeS s pat).bad = true := by simp [wholeS, h]
/-- The form 1, by places. -/
def C1 (s : List UInt8) : Prop := s.take 3 ∈ hdDays3 ∧ (s.drop 3).take 1 = [44] ∧ (s.drop 4).take 1 = [32] ∧ nOK 2 ((s.drop 5).take 2) ∧ (s.drop 7).take 1 = [32] ∧ (s.drop 8).take 3 ∈ hdMonths ∧ (s.drop 11).take 1 = [32] ∧ nOK 4 ((s.drop 12).take 4) ∧ (s.drop 16).take 1 = [32] ∧ tOK (s.drop 17) ∧ (s.drop 25).take 1 = [32] ∧ (s.drop 26).take 3 = [71, 77, 84] ∧ s.drop 29 = []
def v1 (s : List UInt8) : Rd := ⟨[], nVal ((s.drop 12).take 4), ixN hdMonths ((s.drop 8).take 3) + 1, nVal ((s.drop 5).take 2), nVal ((s.drop 17).take 2), nVal ((s.drop 20).take 2), nVal ((s.drop 23).take 2), ixN hdDays3 (s.take 3), false, false⟩
theorem whole1 (s : List UInt8) : (C1 s ∧ wholeS s hdPat1 = v1 s) ∨ (¬ C1 s ∧ (wholeS s hdPat1).bad = true) := by
  unfold hdPat1
  rcases st_w (⟨s, 0, 0, 0, 0, 0, 0, 0, false, false⟩ : Rd) rfl with ⟨h0, e0⟩ | ⟨h0, e0⟩
  rotate_left
  · exact Or.inr ⟨fun h => by obtain ⟨g0, g1, g2, g3, g4, g5, g6, g7, g8, g9, g10, g11, g12⟩ := h; exact h0 g0, whole_fail (by rw [rd0, runS_cons]; exact run_bad _ _ e0)⟩
  replace e0 : partS 119 (⟨s, 0, 0, 0, 0, 0, 0, 0, false, false⟩ : Rd) = (⟨(s.drop 3), 0, 0, 0, 0, 0, 0, ixN hdDays3 (s.take 3), false, false⟩ : Rd) := e0
  rcases st_c 44 (by simp) (⟨(s.drop 3), 0, 0, 0, 0, 0, 0, ixN hdDays3 (s.take 3), false, false⟩ : Rd) rfl with ⟨h1, e1⟩ | ⟨h1, e1⟩
  rotate_left
  · exact Or.inr ⟨fun h => by obtain ⟨g0, g1, g2, g3, g4, g5, g6, g7, g8, g9, g10, g11, g12⟩ := h; exact h1 g1, whole_fail (by rw [rd0, runS_cons, e0, runS_cons]; exact run_bad _ _ e1)⟩
  replace e1 : partS 44 (⟨(s.drop 3), 0, 0, 0, 0, 0, 0, ixN hdDays3 (s.take 3), false, false⟩ : Rd) = (⟨(s.drop 4), 0, 0, 0, 0, 0, 0, ixN hdDays3 (s.take 3), false, false⟩ : Rd) := e1.trans (by simp only [dd])
  rcases st_c 32 (by simp) (⟨(s.drop 4), 0, 0, 0, 0, 0, 0, ixN hdDays3 (s.take 3), false, false⟩ : Rd) rfl with ⟨h2, e2⟩ | ⟨h2, e2⟩
  rotate_left
  · exact Or.inr ⟨fun h => by obtain ⟨g0, g1, g2, g3, g4, g5, g6, g7, g8, g9, g10, g11, g12⟩ := h; exact h2 g2, whole_fail (by rw [rd0, runS_cons, e0, runS_cons, e1, runS_cons]; exact run_bad _ _ e2)⟩
  replace e2 : partS 32 (⟨(s.drop 4), 0, 0, 0, 0, 0, 0, ixN hdDays3 (s.take 3), false, false⟩ : Rd) = (⟨(s.drop 5), 0, 0, 0, 0, 0, 0, ixN hdDays3 (s.take 3), false, false⟩ : Rd) := e2.trans (by simp only [dd])
  rcases st_d (⟨(s.drop 5), 0, 0, 0, 0, 0, 0, ixN hdDays3 (s.take 3), false, false⟩ : Rd) rfl with ⟨h3, e3⟩ | ⟨h3, e3⟩
  rotate_left
  · exact Or.inr ⟨fun h => by obtain ⟨g0, g1, g2, g3, g4, g5, g6, g7, g8, g9, g10, g11, g12⟩ := h; exact h3 g3, whole_fail (by rw [rd0, runS_cons, e0, runS_cons, e1, runS_cons, e2, runS_cons]; exact run_bad _ _ e3)⟩
  replace e3 : partS 100 (⟨(s.drop 5), 0, 0, 0, 0, 0, 0, ixN hdDays3 (s.take 3), false, false⟩ : Rd) = (⟨(s.drop 7), 0, 0, nVal ((s.drop 5).take 2), 0, 0, 0, ixN hdDays3 (s.take 3), false, false⟩ : Rd) := e3.trans (by simp only [dd])
  rcases st_c 32 (by simp) (⟨(s.drop 7), 0, 0, nVal ((s.drop 5).take 2), 0, 0, 0, ixN hdDays3 (s.take 3), false, false⟩ : Rd) rfl with ⟨h4, e4⟩ | ⟨h4, e4⟩
  rotate_left
  · exact Or.inr ⟨fun h => by obtain ⟨g0, g1, g2, g3, g4, g5, g6, g7, g8, g9, g10, g11, g12⟩ := h; exact h4 g4, whole_fail (by rw [rd0, runS_cons, e0, runS_cons, e1, runS_cons, e2, runS_cons, e3, runS_cons]; exact run_bad _ _ e4)⟩
  replace e4 : partS 32 (⟨(s.drop 7), 0, 0, nVal ((s.drop 5).take 2), 0, 0, 0, ixN hdDays3 (s.take 3), false, false⟩ : Rd) = (⟨(s.drop 8), 0, 0, nVal ((s.drop 5).take 2), 0, 0, 0, ixN hdDays3 (s.take 3), false, false⟩ : Rd) := e4.trans (by simp only [dd])
  rcases st_m (⟨(s.drop 8), 0, 0, nVal ((s.drop 5).take 2), 0, 0, 0, ixN hdDays3 (s.take 3), false, false⟩ : Rd) rfl with ⟨h5, e5⟩ | ⟨h5, e5⟩
  rotate_left
  · exact Or.inr ⟨fun h => by obtain ⟨g0, g1, g2, g3, g4, g5, g6, g7, g8, g9, g10, g11, g12⟩ := h; exact h5 g5, whole_fail (by rw [rd0, runS_cons, e0, runS_cons, e1, runS_cons, e2, runS_cons, e3, runS_cons, e4, runS_cons]; exact run_bad _ _ e5)⟩
  replace e5 : partS 109 (⟨(s.drop 8), 0, 0, nVal ((s.drop 5).take 2), 0, 0, 0, ixN hdDays3 (s.take 3), false, false⟩ : Rd) = (⟨(s.drop 11), 0, ixN hdMonths ((s.drop 8).take 3) + 1, nVal ((s.drop 5).take 2), 0, 0, 0, ixN hdDays3 (s.take 3), false, false⟩ : Rd) := e5.trans (by simp only [dd])
  rcases st_c 32 (by simp) (⟨(s.drop 11), 0, ixN hdMonths ((s.drop 8).take 3) + 1, nVal ((s.drop 5).take 2), 0, 0, 0, ixN hdDays3 (s.take 3), false, false⟩ : Rd) rfl with ⟨h6, e6⟩ | ⟨h6, e6⟩
  rotate_left
  · exact Or.inr ⟨fun h => by obtain ⟨g0, g1, g2, g3, g4, g5, g6, g7, g8, g9, g10, g11, g12⟩ := h; exact h6 g6, whole_fail (by rw [rd0, runS_cons, e0, runS_cons, e1, runS_cons, e2, runS_cons, e3, runS_cons, e4, runS_cons, e5, runS_cons]; exact run_bad _ _ e6)⟩
  replace e6 : partS 32 (⟨(s.drop 11), 0, ixN hdMonths ((s.drop 8).take 3) + 1, nVal ((s.drop 5).take 2), 0, 0, 0, ixN hdDays3 (s.take 3), false, false⟩ : Rd) = (⟨(s.drop 12), 0, ixN hdMonths ((s.drop 8).take 3) + 1, nVal ((s.drop 5).take 2), 0, 0, 0, ixN hdDays3 (s.take 3), false, false⟩ : Rd) := e6.trans (by simp only [dd])
  rcases st_y (⟨(s.drop 12), 0, ixN hdMonths ((s.drop 8).take 3) + 1, nVal ((s.drop 5).take 2), 0, 0, 0, ixN hdDays3 (s.take 3), false, false⟩ : Rd) rfl with ⟨h7, e7⟩ | ⟨h7, e7⟩
  rotate_left
  · exact Or.inr ⟨fun h => by obtain ⟨g0, g1, g2, g3, g4, g5, g6, g7, g8, g9, g10, g11, g12⟩ := h; exact h7 g7, whole_fail (by rw [rd0, runS_cons, e0, runS_cons, e1, runS_cons, e2, runS_cons, e3, runS_cons, e4, runS_cons, e5, runS_cons, e6, runS_cons]; exact run_bad _ _ e7)⟩
  replace e7 : partS 121 (⟨(s.drop 12), 0, ixN hdMonths ((s.drop 8).take 3) + 1, nVal ((s.drop 5).take 2), 0, 0, 0, ixN hdDays3 (s.take 3), false, false⟩ : Rd) = (⟨(s.drop 16), nVal ((s.drop 12).take 4), ixN hdMonths ((s.drop 8).take 3) + 1, nVal ((s.drop 5).take 2), 0, 0, 0, ixN hdDays3 (s.take 3), false, false⟩ : Rd) := e7.trans (by simp only [dd])
  rcases st_c 32 (by simp) (⟨(s.drop 16), nVal ((s.drop 12).take 4), ixN hdMonths ((s.drop 8).take 3) + 1, nVal ((s.drop 5).take 2), 0, 0, 0, ixN hdDays3 (s.take 3), false, false⟩ : Rd) rfl with ⟨h8, e8⟩ | ⟨h8, e8⟩
  rotate_left
  · exact Or.inr ⟨fun h => by obtain ⟨g0, g1, g2, g3, g4, g5, g6, g7, g8, g9, g10, g11, g12⟩ := h; exact h8 g8, whole_fail (by rw [rd0, runS_cons, e0, runS_cons, e1, runS_cons, e2, runS_cons, e3, runS_cons, e4, runS_cons, e5, runS_cons, e6, runS_cons, e7, runS_cons]; exact run_bad _ _ e8)⟩
  replace e8 : partS 32 (⟨(s.drop 16), nVal ((s.drop 12).take 4), ixN hdMonths ((s.drop 8).take 3) + 1, nVal ((s.drop 5).take 2), 0, 0, 0, ixN hdDays3 (s.take 3), false, false⟩ : Rd) = (⟨(s.drop 17), nVal ((s.drop 12).take 4), ixN hdMonths ((s.drop 8).take 3) + 1, nVal ((s.drop 5).take 2), 0, 0, 0, ixN hdDays3 (s.take 3), false, false⟩ : Rd) := e8.trans (by simp only [dd])
  rcases st_t (⟨(s.drop 17), nVal ((s.drop 12).take 4), ixN hdMonths ((s.drop 8).take 3) + 1, nVal ((s.drop 5).take 2), 0, 0, 0, ixN hdDays3 (s.take 3), false, false⟩ : Rd) rfl with ⟨h9, e9⟩ | ⟨h9, e9⟩
  rotate_left
  · exact Or.inr ⟨fun h => by obtain ⟨g0, g1, g2, g3, g4, g5, g6, g7, g8, g9, g10, g11, g12⟩ := h; exact h9 g9, whole_fail (by rw [rd0, runS_cons, e0, runS_cons, e1, runS_cons, e2, runS_cons, e3, runS_cons, e4, runS_cons, e5, runS_cons, e6, runS_cons, e7, runS_cons, e8, runS_cons]; exact run_bad _ _ e9)⟩
  replace e9 : partS 116 (⟨(s.drop 17), nVal ((s.drop 12).take 4), ixN hdMonths ((s.drop 8).take 3) + 1, nVal ((s.drop 5).take 2), 0, 0, 0, ixN hdDays3 (s.take 3), false, false⟩ : Rd) = (⟨(s.drop 25), nVal ((s.drop 12).take 4), ixN hdMonths ((s.drop 8).take 3) + 1, nVal ((s.drop 5).take 2), nVal ((s.drop 17).take 2), nVal ((s.drop 20).take 2), nVal ((s.drop 23).take 2), ixN hdDays3 (s.take 3), false, false⟩ : Rd) := e9.trans (by simp only [dd])
  rcases st_c 32 (by simp) (⟨(s.drop 25), nVal ((s.drop 12).take 4), ixN hdMonths ((s.drop 8).take 3) + 1, nVal ((s.drop 5).take 2), nVal ((s.drop 17).take 2), nVal ((s.drop 20).take 2), nVal ((s.drop 23).take 2), ixN hdDays3 (s.take 3), false, false⟩ : Rd) rfl with ⟨h10, e10⟩ | ⟨h10, e10⟩
  rotate_left
  · exact Or.inr ⟨fun h => by obtain ⟨g0, g1, g2, g3, g4, g5, g6, g7, g8, g9, g10, g11, g12⟩ := h; exact h10 g10, whole_fail (by rw [rd0, runS_cons, e0, runS_cons, e1, runS_cons, e2, runS_cons, e3, runS_cons, e4, runS_cons, e5, runS_cons, e6, runS_cons, e7, runS_cons, e8, runS_cons, e9, runS_cons]; exact run_bad _ _ e10)⟩
  replace e10 : partS 32 (⟨(s.drop 25), nVal ((s.drop 12).take 4), ixN hdMonths ((s.drop 8).take 3) + 1, nVal ((s.drop 5).take 2), nVal ((s.drop 17).take 2), nVal ((s.drop 20).take 2), nVal ((s.drop 23).take 2), ixN hdDays3 (s.take 3), false, false⟩ : Rd) = (⟨(s.drop 26), nVal ((s.drop 12).take 4), ixN hdMonths ((s.drop 8).take 3) + 1, nVal ((s.drop 5).take 2), nVal ((s.drop 17).take 2), nVal ((s.drop 20).take 2), nVal ((s.drop 23).take 2), ixN hdDays3 (s.take 3), false, false⟩ : Rd) := e10.trans (by simp only [dd])
  rcases st_z (⟨(s.drop 26), nVal ((s.drop 12).take 4), ixN hdMonths ((s.drop 8).take 3) + 1, nVal ((s.drop 5).take 2), nVal ((s.drop 17).take 2), nVal ((s.drop 20).take 2), nVal ((s.drop 23).take 2), ixN hdDays3 (s.take 3), false, false⟩ : Rd) rfl with ⟨h11, e11⟩ | ⟨h11, e11⟩
  rotate_left
  · exact Or.inr ⟨fun h => by obtain ⟨g0, g1, g2, g3, g4, g5, g6, g7, g8, g9, g10, g11, g12⟩ := h; exact h11 g11, whole_fail (by rw [rd0, runS_cons, e0, runS_cons, e1, runS_cons, e2, runS_cons, e3, runS_cons, e4, runS_cons, e5, runS_cons, e6, runS_cons, e7, runS_cons, e8, runS_cons, e9, runS_cons, e10, runS_cons]; exact run_bad _ _ e11)⟩
  replace e11 : partS 122 (⟨(s.drop 26), nVal ((s.drop 12).take 4), ixN hdMonths ((s.drop 8).take 3) + 1, nVal ((s.drop 5).take 2), nVal ((s.drop 17).take 2), nVal ((s.drop 20).take 2), nVal ((s.drop 23).take 2), ixN hdDays3 (s.take 3), false, false⟩ : Rd) = (⟨(s.drop 29), nVal ((s.drop 12).take 4), ixN hdMonths ((s.drop 8).take 3) + 1, nVal ((s.drop 5).take 2), nVal ((s.drop 17).take 2), nVal ((s.drop 20).take 2), nVal ((s.drop 23).take 2), ixN hdDays3 (s.take 3), false, false⟩ : Rd) := e11.trans (by simp only [dd])
  by_cases hl : s.drop 29 = []
  · refine Or.inl ⟨⟨h0, h1, h2, h3, h4, h5, h6, h7, h8, h9, h10, h11, hl⟩, ?_⟩
    simp only [wholeS, runS_cons, runS_nil, rd0, e0, e1, e2, e3, e4, e5, e6, e7, e8, e9, e10, e11]
    simp [v1, hl]
  · refine Or.inr ⟨fun h => by obtain ⟨g0, g1, g2, g3, g4, g5, g6, g7, g8, g9, g10, g11, g12⟩ := h; exact hl g12, ?_⟩
    simp only [wholeS, runS_cons, runS_nil, rd0, e0, e1, e2, e3, e4, e5, e6, e7, e8, e9, e10, e11]
    simp [hl]
/-- The form 2, by places. -/
def C2 (s : List UInt8) : Prop := wHit hdDays s = true ∧ (wdS hdDays s).take 1 = [44] ∧ ((wdS hdDays s).drop 1).take 1 = [32] ∧ nOK 2 (((wdS hdDays s).drop 2).take 2) ∧ ((wdS hdDays s).drop 4).take 1 = [45] ∧ ((wdS hdDays s).drop 5).take 3 ∈ hdMonths ∧ ((wdS hdDays s).drop 8).take 1 = [45] ∧ nOK 2 (((wdS hdDays s).drop 9).take 2) ∧ ((wdS hdDays s).drop 11).take 1 = [32] ∧ tOK ((wdS hdDays s).drop 12) ∧ ((wdS hdDays s).drop 20).take 1 = [32] ∧ ((wdS hdDays s).drop 21).take 3 = [71, 77, 84] ∧ (wdS hdDays s).drop 24 = []
def v2 (s : List UInt8) : Rd := ⟨[], nVal (((wdS hdDays s).drop 9).take 2), ixN hdMonths (((wdS hdDays s).drop 5).take 3) + 1, nVal (((wdS hdDays s).drop 2).take 2), nVal (((wdS hdDays s).drop 12).take 2), nVal (((wdS hdDays s).drop 15).take 2), nVal (((wdS hdDays s).drop 18).take 2), wdN hdDays s, true, false⟩
theorem whole2 (s : List UInt8) : (C2 s ∧ wholeS s hdPat2 = v2 s) ∨ (¬ C2 s ∧ (wholeS s hdPat2).bad = true) := by
  unfold hdPat2
  by_cases h0 : wHit hdDays s = true
  rotate_left
  · exact Or.inr ⟨fun h => h0 h.1, whole_fail (by rw [runS_cons]; exact run_bad _ _ (by simp [partS, Rd.word, rd0, wdB, h0]))⟩
  have e0 : partS 87 (⟨s, 0, 0, 0, 0, 0, 0, 0, false, false⟩ : Rd) = (⟨wdS hdDays s, 0, 0, 0, 0, 0, 0, wdN hdDays s, false, false⟩ : Rd) := by simp [partS, Rd.word, wdB, h0]
  rcases st_c 44 (by simp) (⟨(wdS hdDays s), 0, 0, 0, 0, 0, 0, wdN hdDays s, false, false⟩ : Rd) rfl with ⟨h1, e1⟩ | ⟨h1, e1⟩
  rotate_left
  · exact Or.inr ⟨fun h => by obtain ⟨g0, g1, g2, g3, g4, g5, g6, g7, g8, g9, g10, g11, g12⟩ := h; exact h1 g1, whole_fail (by rw [rd0, runS_cons, e0, runS_cons]; exact run_bad _ _ e1)⟩
  replace e1 : partS 44 (⟨(wdS hdDays s), 0, 0, 0, 0, 0, 0, wdN hdDays s, false, false⟩ : Rd) = (⟨((wdS hdDays s).drop 1), 0, 0, 0, 0, 0, 0, wdN hdDays s, false, false⟩ : Rd) := e1
  rcases st_c 32 (by simp) (⟨((wdS hdDays s).drop 1), 0, 0, 0, 0, 0, 0, wdN hdDays s, false, false⟩ : Rd) rfl with ⟨h2, e2⟩ | ⟨h2, e2⟩
  rotate_left
  · exact Or.inr ⟨fun h => by obtain ⟨g0, g1, g2, g3, g4, g5, g6, g7, g8, g9, g10, g11, g12⟩ := h; exact h2 g2, whole_fail (by rw [rd0, runS_cons, e0, runS_cons, e1, runS_cons]; exact run_bad _ _ e2)⟩
  replace e2 : partS 32 (⟨((wdS hdDays s).drop 1), 0, 0, 0, 0, 0, 0, wdN hdDays s, false, false⟩ : Rd) = (⟨((wdS hdDays s).drop 2), 0, 0, 0, 0, 0, 0, wdN hdDays s, false, false⟩ : Rd) := e2.trans (by simp only [dd])
  rcases st_d (⟨((wdS hdDays s).drop 2), 0, 0, 0, 0, 0, 0, wdN hdDays s, false, false⟩ : Rd) rfl with ⟨h3, e3⟩ | ⟨h3, e3⟩
  rotate_left
  · exact Or.inr ⟨fun h => by obtain ⟨g0, g1, g2, g3, g4, g5, g6, g7, g8, g9, g10, g11, g12⟩ := h; exact h3 g3, whole_fail (by rw [rd0, runS_cons, e0, runS_cons, e1, runS_cons, e2, runS_cons]; exact run_bad _ _ e3)⟩
  replace e3 : partS 100 (⟨((wdS hdDays s).drop 2), 0, 0, 0, 0, 0, 0, wdN hdDays s, false, false⟩ : Rd) = (⟨((wdS hdDays s).drop 4), 0, 0, nVal (((wdS hdDays s).drop 2).take 2), 0, 0, 0, wdN hdDays s, false, false⟩ : Rd) := e3.trans (by simp only [dd])
  rcases st_c 45 (by simp) (⟨((wdS hdDays s).drop 4), 0, 0, nVal (((wdS hdDays s).drop 2).take 2), 0, 0, 0, wdN hdDays s, false, false⟩ : Rd) rfl with ⟨h4, e4⟩ | ⟨h4, e4⟩
  rotate_left
  · exact Or.inr ⟨fun h => by obtain ⟨g0, g1, g2, g3, g4, g5, g6, g7, g8, g9, g10, g11, g12⟩ := h; exact h4 g4, whole_fail (by rw [rd0, runS_cons, e0, runS_cons, e1, runS_cons, e2, runS_cons, e3, runS_cons]; exact run_bad _ _ e4)⟩
  replace e4 : partS 45 (⟨((wdS hdDays s).drop 4), 0, 0, nVal (((wdS hdDays s).drop 2).take 2), 0, 0, 0, wdN hdDays s, false, false⟩ : Rd) = (⟨((wdS hdDays s).drop 5), 0, 0, nVal (((wdS hdDays s).drop 2).take 2), 0, 0, 0, wdN hdDays s, false, false⟩ : Rd) := e4.trans (by simp only [dd])
  rcases st_m (⟨((wdS hdDays s).drop 5), 0, 0, nVal (((wdS hdDays s).drop 2).take 2), 0, 0, 0, wdN hdDays s, false, false⟩ : Rd) rfl with ⟨h5, e5⟩ | ⟨h5, e5⟩
  rotate_left
  · exact Or.inr ⟨fun h => by obtain ⟨g0, g1, g2, g3, g4, g5, g6, g7, g8, g9, g10, g11, g12⟩ := h; exact h5 g5, whole_fail (by rw [rd0, runS_cons, e0, runS_cons, e1, runS_cons, e2, runS_cons, e3, runS_cons, e4, runS_cons]; exact run_bad _ _ e5)⟩
  replace e5 : partS 109 (⟨((wdS hdDays s).drop 5), 0, 0, nVal (((wdS hdDays s).drop 2).take 2), 0, 0, 0, wdN hdDays s, false, false⟩ : Rd) = (⟨((wdS hdDays s).drop 8), 0, ixN hdMonths (((wdS hdDays s).drop 5).take 3) + 1, nVal (((wdS hdDays s).drop 2).take 2), 0, 0, 0, wdN hdDays s, false, false⟩ : Rd) := e5.trans (by simp only [dd])
  rcases st_c 45 (by simp) (⟨((wdS hdDays s).drop 8), 0, ixN hdMonths (((wdS hdDays s).drop 5).take 3) + 1, nVal (((wdS hdDays s).drop 2).take 2), 0, 0, 0, wdN hdDays s, false, false⟩ : Rd) rfl with ⟨h6, e6⟩ | ⟨h6, e6⟩
  rotate_left
  · exact Or.inr ⟨fun h => by obtain ⟨g0, g1, g2, g3, g4, g5, g6, g7, g8, g9, g10, g11, g12⟩ := h; exact h6 g6, whole_fail (by rw [rd0, runS_cons, e0, runS_cons, e1, runS_cons, e2, runS_cons, e3, runS_cons, e4, runS_cons, e5, runS_cons]; exact run_bad _ _ e6)⟩
  replace e6 : partS 45 (⟨((wdS hdDays s).drop 8), 0, ixN hdMonths (((wdS hdDays s).drop 5).take 3) + 1, nVal (((wdS hdDays s).drop 2).take 2), 0, 0, 0, wdN hdDays s, false, false⟩ : Rd) = (⟨((wdS hdDays s).drop 9), 0, ixN hdMonths (((wdS hdDays s).drop 5).take 3) + 1, nVal (((wdS hdDays s).drop 2).take 2), 0, 0, 0, wdN hdDays s, false, false⟩ : Rd) := e6.trans (by simp only [dd])
  rcases st_k (⟨((wdS hdDays s).drop 9), 0, ixN hdMonths (((wdS hdDays s).drop 5).take 3) + 1, nVal (((wdS hdDays s).drop 2).take 2), 0, 0, 0, wdN hdDays s, false, false⟩ : Rd) rfl with ⟨h7, e7⟩ | ⟨h7, e7⟩
  rotate_left
  · exact Or.inr ⟨fun h => by obtain ⟨g0, g1, g2, g3, g4, g5, g6, g7, g8, g9, g10, g11, g12⟩ := h; exact h7 g7, whole_fail (by rw [rd0, runS_cons, e0, runS_cons, e1, runS_cons, e2, runS_cons, e3, runS_cons, e4, runS_cons, e5, runS_cons, e6, runS_cons]; exact run_bad _ _ e7)⟩
  replace e7 : partS 107 (⟨((wdS hdDays s).drop 9), 0, ixN hdMonths (((wdS hdDays s).drop 5).take 3) + 1, nVal (((wdS hdDays s).drop 2).take 2), 0, 0, 0, wdN hdDays s, false, false⟩ : Rd) = (⟨((wdS hdDays s).drop 11), nVal (((wdS hdDays s).drop 9).take 2), ixN hdMonths (((wdS hdDays s).drop 5).take 3) + 1, nVal (((wdS hdDays s).drop 2).take 2), 0, 0, 0, wdN hdDays s, true, false⟩ : Rd) := e7.trans (by simp only [dd])
  rcases st_c 32 (by simp) (⟨((wdS hdDays s).drop 11), nVal (((wdS hdDays s).drop 9).take 2), ixN hdMonths (((wdS hdDays s).drop 5).take 3) + 1, nVal (((wdS hdDays s).drop 2).take 2), 0, 0, 0, wdN hdDays s, true, false⟩ : Rd) rfl with ⟨h8, e8⟩ | ⟨h8, e8⟩
  rotate_left
  · exact Or.inr ⟨fun h => by obtain ⟨g0, g1, g2, g3, g4, g5, g6, g7, g8, g9, g10, g11, g12⟩ := h; exact h8 g8, whole_fail (by rw [rd0, runS_cons, e0, runS_cons, e1, runS_cons, e2, runS_cons, e3, runS_cons, e4, runS_cons, e5, runS_cons, e6, runS_cons, e7, runS_cons]; exact run_bad _ _ e8)⟩
  replace e8 : partS 32 (⟨((wdS hdDays s).drop 11), nVal (((wdS hdDays s).drop 9).take 2), ixN hdMonths (((wdS hdDays s).drop 5).take 3) + 1, nVal (((wdS hdDays s).drop 2).take 2), 0, 0, 0, wdN hdDays s, true, false⟩ : Rd) = (⟨((wdS hdDays s).drop 12), nVal (((wdS hdDays s).drop 9).take 2), ixN hdMonths (((wdS hdDays s).drop 5).take 3) + 1, nVal (((wdS hdDays s).drop 2).take 2), 0, 0, 0, wdN hdDays s, true, false⟩ : Rd) := e8.trans (by simp only [dd])
  rcases st_t (⟨((wdS hdDays s).drop 12), nVal (((wdS hdDays s).drop 9).take 2), ixN hdMonths (((wdS hdDays s).drop 5).take 3) + 1, nVal (((wdS hdDays s).drop 2).take 2), 0, 0, 0, wdN hdDays s, true, false⟩ : Rd) rfl with ⟨h9, e9⟩ | ⟨h9, e9⟩
  rotate_left
  · exact Or.inr ⟨fun h => by obtain ⟨g0, g1, g2, g3, g4, g5, g6, g7, g8, g9, g10, g11, g12⟩ := h; exact h9 g9, whole_fail (by rw [rd0, runS_cons, e0, runS_cons, e1, runS_cons, e2, runS_cons, e3, runS_cons, e4, runS_cons, e5, runS_cons, e6, runS_cons, e7, runS_cons, e8, runS_cons]; exact run_bad _ _ e9)⟩
  replace e9 : partS 116 (⟨((wdS hdDays s).drop 12), nVal (((wdS hdDays s).drop 9).take 2), ixN hdMonths (((wdS hdDays s).drop 5).take 3) + 1, nVal (((wdS hdDays s).drop 2).take 2), 0, 0, 0, wdN hdDays s, true, false⟩ : Rd) = (⟨((wdS hdDays s).drop 20), nVal (((wdS hdDays s).drop 9).take 2), ixN hdMonths (((wdS hdDays s).drop 5).take 3) + 1, nVal (((wdS hdDays s).drop 2).take 2), nVal (((wdS hdDays s).drop 12).take 2), nVal (((wdS hdDays s).drop 15).take 2), nVal (((wdS hdDays s).drop 18).take 2), wdN hdDays s, true, false⟩ : Rd) := e9.trans (by simp only [dd])
  rcases st_c 32 (by simp) (⟨((wdS hdDays s).drop 20), nVal (((wdS hdDays s).drop 9).take 2), ixN hdMonths (((wdS hdDays s).drop 5).take 3) + 1, nVal (((wdS hdDays s).drop 2).take 2), nVal (((wdS hdDays s).drop 12).take 2), nVal (((wdS hdDays s).drop 15).take 2), nVal (((wdS hdDays s).drop 18).take 2), wdN hdDays s, true, false⟩ : Rd) rfl with ⟨h10, e10⟩ | ⟨h10, e10⟩
  rotate_left
  · exact Or.inr ⟨fun h => by obtain ⟨g0, g1, g2, g3, g4, g5, g6, g7, g8, g9, g10, g11, g12⟩ := h; exact h10 g10, whole_fail (by rw [rd0, runS_cons, e0, runS_cons, e1, runS_cons, e2, runS_cons, e3, runS_cons, e4, runS_cons, e5, runS_cons, e6, runS_cons, e7, runS_cons, e8, runS_cons, e9, runS_cons]; exact run_bad _ _ e10)⟩
  replace e10 : partS 32 (⟨((wdS hdDays s).drop 20), nVal (((wdS hdDays s).drop 9).take 2), ixN hdMonths (((wdS hdDays s).drop 5).take 3) + 1, nVal (((wdS hdDays s).drop 2).take 2), nVal (((wdS hdDays s).drop 12).take 2), nVal (((wdS hdDays s).drop 15).take 2), nVal (((wdS hdDays s).drop 18).take 2), wdN hdDays s, true, false⟩ : Rd) = (⟨((wdS hdDays s).drop 21), nVal (((wdS hdDays s).drop 9).take 2), ixN hdMonths (((wdS hdDays s).drop 5).take 3) + 1, nVal (((wdS hdDays s).drop 2).take 2), nVal (((wdS hdDays s).drop 12).take 2), nVal (((wdS hdDays s).drop 15).take 2), nVal (((wdS hdDays s).drop 18).take 2), wdN hdDays s, true, false⟩ : Rd) := e10.trans (by simp only [dd])
  rcases st_z (⟨((wdS hdDays s).drop 21), nVal (((wdS hdDays s).drop 9).take 2), ixN hdMonths (((wdS hdDays s).drop 5).take 3) + 1, nVal (((wdS hdDays s).drop 2).take 2), nVal (((wdS hdDays s).drop 12).take 2), nVal (((wdS hdDays s).drop 15).take 2), nVal (((wdS hdDays s).drop 18).take 2), wdN hdDays s, true, false⟩ : Rd) rfl with ⟨h11, e11⟩ | ⟨h11, e11⟩
  rotate_left
  · exact Or.inr ⟨fun h => by obtain ⟨g0, g1, g2, g3, g4, g5, g6, g7, g8, g9, g10, g11, g12⟩ := h; exact h11 g11, whole_fail (by rw [rd0, runS_cons, e0, runS_cons, e1, runS_cons, e2, runS_cons, e3, runS_cons, e4, runS_cons, e5, runS_cons, e6, runS_cons, e7, runS_cons, e8, runS_cons, e9, runS_cons, e10, runS_cons]; exact run_bad _ _ e11)⟩
  replace e11 : partS 122 (⟨((wdS hdDays s).drop 21), nVal (((wdS hdDays s).drop 9).take 2), ixN hdMonths (((wdS hdDays s).drop 5).take 3) + 1, nVal (((wdS hdDays s).drop 2).take 2), nVal (((wdS hdDays s).drop 12).take 2), nVal (((wdS hdDays s).drop 15).take 2), nVal (((wdS hdDays s).drop 18).take 2), wdN hdDays s, true, false⟩ : Rd) = (⟨((wdS hdDays s).drop 24), nVal (((wdS hdDays s).drop 9).take 2), ixN hdMonths (((wdS hdDays s).drop 5).take 3) + 1, nVal (((wdS hdDays s).drop 2).take 2), nVal (((wdS hdDays s).drop 12).take 2), nVal (((wdS hdDays s).drop 15).take 2), nVal (((wdS hdDays s).drop 18).take 2), wdN hdDays s, true, false⟩ : Rd) := e11.trans (by simp only [dd])
  by_cases hl : (wdS hdDays s).drop 24 = []
  · refine Or.inl ⟨⟨h0, h1, h2, h3, h4, h5, h6, h7, h8, h9, h10, h11, hl⟩, ?_⟩
    simp only [wholeS, runS_cons, runS_nil, rd0, e0, e1, e2, e3, e4, e5, e6, e7, e8, e9, e10, e11]
    simp [v2, hl]
  · refine Or.inr ⟨fun h => by obtain ⟨g0, g1, g2, g3, g4, g5, g6, g7, g8, g9, g10, g11, g12⟩ := h; exact hl g12, ?_⟩
    simp only [wholeS, runS_cons, runS_nil, rd0, e0, e1, e2, e3, e4, e5, e6, e7, e8, e9, e10, e11]
    simp [hl]
/-- The form 3, by places. -/
def C3 (s : List UInt8) : Prop := s.take 3 ∈ hdDays3 ∧ (s.drop 3).take 1 = [32] ∧ (s.drop 4).take 3 ∈ hdMonths ∧ (s.drop 7).take 1 = [32] ∧ bOK (s.drop 8) ∧ (s.drop 10).take 1 = [32] ∧ tOK (s.drop 11) ∧ (s.drop 19).take 1 = [32] ∧ nOK 4 ((s.drop 20).take 4) ∧ s.drop 24 = []
def v3 (s : List UInt8) : Rd := ⟨[], nVal ((s.drop 20).take 4), ixN hdMonths ((s.drop 4).take 3) + 1, bVal (s.drop 8), nVal ((s.drop 11).take 2), nVal ((s.drop 14).take 2), nVal ((s.drop 17).take 2), ixN hdDays3 (s.take 3), false, false⟩
theorem whole3 (s : List UInt8) : (C3 s ∧ wholeS s hdPat3 = v3 s) ∨ (¬ C3 s ∧ (wholeS s hdPat3).bad = true) := by
  unfold hdPat3
  rcases st_w (⟨s, 0, 0, 0, 0, 0, 0, 0, false, false⟩ : Rd) rfl with ⟨h0, e0⟩ | ⟨h0, e0⟩
  rotate_left
  · exact Or.inr ⟨fun h => by obtain ⟨g0, g1, g2, g3, g4, g5, g6, g7, g8, g9⟩ := h; exact h0 g0, whole_fail (by rw [rd0, runS_cons]; exact run_bad _ _ e0)⟩
  replace e0 : partS 119 (⟨s, 0, 0, 0, 0, 0, 0, 0, false, false⟩ : Rd) = (⟨(s.drop 3), 0, 0, 0, 0, 0, 0, ixN hdDays3 (s.take 3), false, false⟩ : Rd) := e0
  rcases st_c 32 (by simp) (⟨(s.drop 3), 0, 0, 0, 0, 0, 0, ixN hdDays3 (s.take 3), false, false⟩ : Rd) rfl with ⟨h1, e1⟩ | ⟨h1, e1⟩
  rotate_left
  · exact Or.inr ⟨fun h => by obtain ⟨g0, g1, g2, g3, g4, g5, g6, g7, g8, g9⟩ := h; exact h1 g1, whole_fail (by rw [rd0, runS_cons, e0, runS_cons]; exact run_bad _ _ e1)⟩
  replace e1 : partS 32 (⟨(s.drop 3), 0, 0, 0, 0, 0, 0, ixN hdDays3 (s.take 3), false, false⟩ : Rd) = (⟨(s.drop 4), 0, 0, 0, 0, 0, 0, ixN hdDays3 (s.take 3), false, false⟩ : Rd) := e1.trans (by simp only [dd])
  rcases st_m (⟨(s.drop 4), 0, 0, 0, 0, 0, 0, ixN hdDays3 (s.take 3), false, false⟩ : Rd) rfl with ⟨h2, e2⟩ | ⟨h2, e2⟩
  rotate_left
  · exact Or.inr ⟨fun h => by obtain ⟨g0, g1, g2, g3, g4, g5, g6, g7, g8, g9⟩ := h; exact h2 g2, whole_fail (by rw [rd0, runS_cons, e0, runS_cons, e1, runS_cons]; exact run_bad _ _ e2)⟩
  replace e2 : partS 109 (⟨(s.drop 4), 0, 0, 0, 0, 0, 0, ixN hdDays3 (s.take 3), false, false⟩ : Rd) = (⟨(s.drop 7), 0, ixN hdMonths ((s.drop 4).take 3) + 1, 0, 0, 0, 0, ixN hdDays3 (s.take 3), false, false⟩ : Rd) := e2.trans (by simp only [dd])
  rcases st_c 32 (by simp) (⟨(s.drop 7), 0, ixN hdMonths ((s.drop 4).take 3) + 1, 0, 0, 0, 0, ixN hdDays3 (s.take 3), false, false⟩ : Rd) rfl with ⟨h3, e3⟩ | ⟨h3, e3⟩
  rotate_left
  · exact Or.inr ⟨fun h => by obtain ⟨g0, g1, g2, g3, g4, g5, g6, g7, g8, g9⟩ := h; exact h3 g3, whole_fail (by rw [rd0, runS_cons, e0, runS_cons, e1, runS_cons, e2, runS_cons]; exact run_bad _ _ e3)⟩
  replace e3 : partS 32 (⟨(s.drop 7), 0, ixN hdMonths ((s.drop 4).take 3) + 1, 0, 0, 0, 0, ixN hdDays3 (s.take 3), false, false⟩ : Rd) = (⟨(s.drop 8), 0, ixN hdMonths ((s.drop 4).take 3) + 1, 0, 0, 0, 0, ixN hdDays3 (s.take 3), false, false⟩ : Rd) := e3.trans (by simp only [dd])
  rcases st_b (⟨(s.drop 8), 0, ixN hdMonths ((s.drop 4).take 3) + 1, 0, 0, 0, 0, ixN hdDays3 (s.take 3), false, false⟩ : Rd) rfl with ⟨h4, e4⟩ | ⟨h4, e4⟩
  rotate_left
  · exact Or.inr ⟨fun h => by obtain ⟨g0, g1, g2, g3, g4, g5, g6, g7, g8, g9⟩ := h; exact h4 g4, whole_fail (by rw [rd0, runS_cons, e0, runS_cons, e1, runS_cons, e2, runS_cons, e3, runS_cons]; exact run_bad _ _ e4)⟩
  replace e4 : partS 98 (⟨(s.drop 8), 0, ixN hdMonths ((s.drop 4).take 3) + 1, 0, 0, 0, 0, ixN hdDays3 (s.take 3), false, false⟩ : Rd) = (⟨(s.drop 10), 0, ixN hdMonths ((s.drop 4).take 3) + 1, bVal (s.drop 8), 0, 0, 0, ixN hdDays3 (s.take 3), false, false⟩ : Rd) := e4.trans (by simp only [dd])
  rcases st_c 32 (by simp) (⟨(s.drop 10), 0, ixN hdMonths ((s.drop 4).take 3) + 1, bVal (s.drop 8), 0, 0, 0, ixN hdDays3 (s.take 3), false, false⟩ : Rd) rfl with ⟨h5, e5⟩ | ⟨h5, e5⟩
  rotate_left
  · exact Or.inr ⟨fun h => by obtain ⟨g0, g1, g2, g3, g4, g5, g6, g7, g8, g9⟩ := h; exact h5 g5, whole_fail (by rw [rd0, runS_cons, e0, runS_cons, e1, runS_cons, e2, runS_cons, e3, runS_cons, e4, runS_cons]; exact run_bad _ _ e5)⟩
  replace e5 : partS 32 (⟨(s.drop 10), 0, ixN hdMonths ((s.drop 4).take 3) + 1, bVal (s.drop 8), 0, 0, 0, ixN hdDays3 (s.take 3), false, false⟩ : Rd) = (⟨(s.drop 11), 0, ixN hdMonths ((s.drop 4).take 3) + 1, bVal (s.drop 8), 0, 0, 0, ixN hdDays3 (s.take 3), false, false⟩ : Rd) := e5.trans (by simp only [dd])
  rcases st_t (⟨(s.drop 11), 0, ixN hdMonths ((s.drop 4).take 3) + 1, bVal (s.drop 8), 0, 0, 0, ixN hdDays3 (s.take 3), false, false⟩ : Rd) rfl with ⟨h6, e6⟩ | ⟨h6, e6⟩
  rotate_left
  · exact Or.inr ⟨fun h => by obtain ⟨g0, g1, g2, g3, g4, g5, g6, g7, g8, g9⟩ := h; exact h6 g6, whole_fail (by rw [rd0, runS_cons, e0, runS_cons, e1, runS_cons, e2, runS_cons, e3, runS_cons, e4, runS_cons, e5, runS_cons]; exact run_bad _ _ e6)⟩
  replace e6 : partS 116 (⟨(s.drop 11), 0, ixN hdMonths ((s.drop 4).take 3) + 1, bVal (s.drop 8), 0, 0, 0, ixN hdDays3 (s.take 3), false, false⟩ : Rd) = (⟨(s.drop 19), 0, ixN hdMonths ((s.drop 4).take 3) + 1, bVal (s.drop 8), nVal ((s.drop 11).take 2), nVal ((s.drop 14).take 2), nVal ((s.drop 17).take 2), ixN hdDays3 (s.take 3), false, false⟩ : Rd) := e6.trans (by simp only [dd])
  rcases st_c 32 (by simp) (⟨(s.drop 19), 0, ixN hdMonths ((s.drop 4).take 3) + 1, bVal (s.drop 8), nVal ((s.drop 11).take 2), nVal ((s.drop 14).take 2), nVal ((s.drop 17).take 2), ixN hdDays3 (s.take 3), false, false⟩ : Rd) rfl with ⟨h7, e7⟩ | ⟨h7, e7⟩
  rotate_left
  · exact Or.inr ⟨fun h => by obtain ⟨g0, g1, g2, g3, g4, g5, g6, g7, g8, g9⟩ := h; exact h7 g7, whole_fail (by rw [rd0, runS_cons, e0, runS_cons, e1, runS_cons, e2, runS_cons, e3, runS_cons, e4, runS_cons, e5, runS_cons, e6, runS_cons]; exact run_bad _ _ e7)⟩
  replace e7 : partS 32 (⟨(s.drop 19), 0, ixN hdMonths ((s.drop 4).take 3) + 1, bVal (s.drop 8), nVal ((s.drop 11).take 2), nVal ((s.drop 14).take 2), nVal ((s.drop 17).take 2), ixN hdDays3 (s.take 3), false, false⟩ : Rd) = (⟨(s.drop 20), 0, ixN hdMonths ((s.drop 4).take 3) + 1, bVal (s.drop 8), nVal ((s.drop 11).take 2), nVal ((s.drop 14).take 2), nVal ((s.drop 17).take 2), ixN hdDays3 (s.take 3), false, false⟩ : Rd) := e7.trans (by simp only [dd])
  rcases st_y (⟨(s.drop 20), 0, ixN hdMonths ((s.drop 4).take 3) + 1, bVal (s.drop 8), nVal ((s.drop 11).take 2), nVal ((s.drop 14).take 2), nVal ((s.drop 17).take 2), ixN hdDays3 (s.take 3), false, false⟩ : Rd) rfl with ⟨h8, e8⟩ | ⟨h8, e8⟩
  rotate_left
  · exact Or.inr ⟨fun h => by obtain ⟨g0, g1, g2, g3, g4, g5, g6, g7, g8, g9⟩ := h; exact h8 g8, whole_fail (by rw [rd0, runS_cons, e0, runS_cons, e1, runS_cons, e2, runS_cons, e3, runS_cons, e4, runS_cons, e5, runS_cons, e6, runS_cons, e7, runS_cons]; exact run_bad _ _ e8)⟩
  replace e8 : partS 121 (⟨(s.drop 20), 0, ixN hdMonths ((s.drop 4).take 3) + 1, bVal (s.drop 8), nVal ((s.drop 11).take 2), nVal ((s.drop 14).take 2), nVal ((s.drop 17).take 2), ixN hdDays3 (s.take 3), false, false⟩ : Rd) = (⟨(s.drop 24), nVal ((s.drop 20).take 4), ixN hdMonths ((s.drop 4).take 3) + 1, bVal (s.drop 8), nVal ((s.drop 11).take 2), nVal ((s.drop 14).take 2), nVal ((s.drop 17).take 2), ixN hdDays3 (s.take 3), false, false⟩ : Rd) := e8.trans (by simp only [dd])
  by_cases hl : s.drop 24 = []
  · refine Or.inl ⟨⟨h0, h1, h2, h3, h4, h5, h6, h7, h8, hl⟩, ?_⟩
    simp only [wholeS, runS_cons, runS_nil, rd0, e0, e1, e2, e3, e4, e5, e6, e7, e8]
    simp [v3, hl]
  · refine Or.inr ⟨fun h => by obtain ⟨g0, g1, g2, g3, g4, g5, g6, g7, g8, g9⟩ := h; exact hl g9, ?_⟩
    simp only [wholeS, runS_cons, runS_nil, rd0, e0, e1, e2, e3, e4, e5, e6, e7, e8]
    simp [hl]
end Go.Mdl
