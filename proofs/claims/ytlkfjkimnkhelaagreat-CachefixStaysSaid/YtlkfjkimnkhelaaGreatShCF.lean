import Derived.Test.YtlkfjkimnkhelaaGreatShCE
section
set_option linter.unusedVariables false
set_option linter.unusedSimpArgs false
namespace Go.Mdl
open Go Go.Abs
theorem dd (s : List UInt8) (a b : Nat) : (s.drop a).drop b = s.drop (a + b) := by rw [List.drop_drop]
theorem whole_fail {s pat : List UInt8} (h : (runS pat (rd0 s)).bad = true) : (wholeS s pat).bad = true := by simp [wholeS, h]
def C1 (s : List UInt8) : Prop := s.take 3 ∈ hdDays3 ∧ (s.drop 3).take 1 = [44] ∧ (s.drop 4).take 1 = [32] ∧ nOK 2 ((s.drop 5).take 2) ∧ (s.drop 7).take 1 = [32] ∧ (s.drop 8).take 3 ∈ hdMonths ∧ (s.drop 11).take 1 = [32] ∧ nOK 4 ((s.drop 12).take 4) ∧ (s.drop 16).take 1 = [32] ∧ tOK (s.drop 17) ∧ (s.drop 25).take 1 = [32] ∧ (s.drop 26).take 3 = [71, 77, 84] ∧ s.drop 29 = []
def v1 (s : List UInt8) : Rd := ⟨[], nVal ((s.drop 12).take 4), ixN hdMonths ((s.drop 8).take 3) + 1, nVal ((s.drop 5).take 2), nVal ((s.drop 17).take 2), nVal ((s.drop 20).take 2), nVal ((s.drop 23).take 2), ixN hdDays3 (s.take 3), false, false⟩
theorem whole1 (s : List UInt8) : (C1 s ∧ wholeS s hdPat1 = v1 s) ∨ (¬ C1 s ∧ (wholeS s hdPat1).bad = true) := by
  unfold hdPat1
  rcases st_w (⟨s, 0, 0, 0, 0, 0, 0, 0, false, false⟩ : Rd) rfl with ⟨h0, e0⟩ | ⟨h0, e0⟩
  rotate_left
  · exact Or.inr ⟨fun h => by obtain ⟨g0, g1, g2, g3, g4, g5, g6, g7, g8, g9, g10, g11, g12⟩ := h; exact h0 g0, whole_fail (by rw [rd0, runS_cons]; exact run_bad _ _ e0)⟩
  replace e0 : partS 119 (⟨s, 0, 0, 0, 0, 0, 0, 0, false, false⟩ : Rd) = (⟨(s.drop 3), 0, 0, 0, 0, 0, 0, ixN hdDays3 (s.take 3), false, false⟩ : Rd) := e0
  rcases st_c 44 (by simp) (⟨(s.drop 3), 0, 0, 0, 0, 0, 0, ixN hdDays3 (s.take 3), false, false⟩ : Rd) rfl with ⟨h1, e1⟩ | ⟨h1, e1⟩
  rotate_left
  · exact Or.inr ⟨fun h => by obtain ⟨g0, g1, g2, g3, g4, g5, g6, g7, g8, g9, g10, g11, g12⟩ := h; exact h1 g1, whole_fail (by rw [rd0, runS_cons, e0, runS_cons]; exact run_bad _ _ e1)⟩
  replace e1 : partS 44 (⟨(s.drop 3), 0, 0, 0, 0, 0, 0, ixN hdDays3 (s.take 3), false, false⟩ : Rd) = (⟨(s.drop 4), 0, 0, 0, 0, 0, 0, ixN hdDays3 (s.take 3), false, false⟩ : Rd) := e1.trans (by simp only [dd])
  rcases st_c 32 (by simp) (⟨(s.drop 4), 0, 0, 0, 0, 0, 0, ixN hdDays3 (s.take 3), false, false⟩ : Rd) rfl with ⟨h2, e2⟩ | ⟨h2, e2⟩
  rotate_left
  · exact Or.inr ⟨fun h => by obtain ⟨g0, g1, g2, g3, g4, g5, g6, g7, g8, g9, g10, g11, g12⟩ := h; exact h2 g2, whole_fail (by rw [rd0, runS_cons, e0, runS_cons, e1, runS_cons]; exact run_bad _ _ e2)⟩
  replace e2 : partS 32 (⟨(s.drop 4), 0, 0, 0, 0, 0, 0, ixN hdDays3 (s.take 3), false, false⟩ : Rd) = (⟨(s.drop 5), 0, 0, 0, 0, 0, 0, ixN hdDays3 (s.take 3), false, false⟩ : Rd) := e2.trans (by simp only [dd])
  rcases st_d (⟨(s.drop 5), 0, 0, 0, 0, 0, 0, ixN hdDays3 (s.take 3), false, false⟩ : Rd) rfl with ⟨h3, e3⟩ | ⟨h3, e3⟩
  rotate_left
  · exact Or.inr ⟨fun h => by obtain ⟨g0, g1, g2, g3, g4, g5, g6, g7, g8, g9, g10, g11, g12⟩ := h; exact h3 g3, whole_fail (by rw [rd0, runS_cons, e0, runS_cons, e1, runS_cons, e2, runS_cons]; exact run_bad _ _ e3)⟩
  replace e3 : partS 100 (⟨(s.drop 5), 0, 0, 0, 0, 0, 0, ixN hdDays3 (s.take 3), false, false⟩ : Rd) = (⟨(s.drop 7), 0, 0, nVal ((s.drop 5).take 2), 0, 0, 0, ixN hdDays3 (s.take 3), false, false⟩ : Rd) := e3.trans (by simp only [dd])
  rcases st_c 32 (by simp) (⟨(s.drop 7), 0, 0, nVal ((s.drop 5).take 2), 0, 0, 0, ixN hdDays3 (s.take 3), false, false⟩ : Rd) rfl with ⟨h4, e4⟩ | ⟨h4, e4⟩
  rotate_left
  · exact Or.inr ⟨fun h => by obtain ⟨g0, g1, g2, g3, g4, g5, g6, g7, g8, g9, g10, g11, g12⟩ := h; exact h4 g4, whole_fail (by rw [rd0, runS_cons, e0, runS_cons, e1, runS_cons, e2, runS_cons, e3, runS_cons]; exact run_bad _ _ e4)⟩
  replace e4 : partS 32 (⟨(s.drop 7), 0, 0, nVal ((s.drop 5).take 2), 0, 0, 0, ixN hdDays3 (s.take 3), false, false⟩ : Rd) = (⟨(s.drop 8), 0, 0, nVal ((s.drop 5).take 2), 0, 0, 0, ixN hdDays3 (s.take 3), false, false⟩ : Rd) := e4.trans (by simp only [dd])
  rcases st_m (⟨(s.drop 8), 0, 0, nVal ((s.drop 5).take 2), 0, 0, 0, ixN hdDays3 (s.take 3), false, false⟩ : Rd) rfl with ⟨h5, e5⟩ | ⟨h5, e5⟩
  rotate_left
  · exact Or.inr ⟨fun h => by obtain ⟨g0, g1, g2, g3, g4, g5, g6, g7, g8, g9, g10, g11, g12⟩ := h; exact h5 g5, whole_fail (by rw [rd0, runS_cons, e0, runS_cons, e1, runS_cons, e2, runS_cons, e3, runS_cons, e4, runS_cons]; exact run_bad _ _ e5)⟩
  replace e5 : partS 109 (⟨(s.drop 8), 0, 0, nVal ((s.drop 5).take 2), 0, 0, 0, ixN hdDays3 (s.take 3), false, false⟩ : Rd) = (⟨(s.drop 11), 0, ixN hdMonths ((s.drop 8).take 3) + 1, nVal ((s.drop 5).take 2), 0, 0, 0, ixN hdDays3 (s.take 3), false, false⟩ : Rd) := e5.trans (by simp only [dd])
  rcases st_c 32 (by simp) (⟨(s.drop 11), 0, ixN hdMonths ((s.drop 8).take 3) + 1, nVal ((s.drop 5).take 2), 0, 0, 0, ixN hdDays3 (s.take 3), false, false⟩ : Rd) rfl with ⟨h6, e6⟩ | ⟨h6, e6⟩
  rotate_left
  · exact Or.inr ⟨fun h => by obtain ⟨g0, g1, g2, g3, g4, g5, g6, g7, g8, g9, g10, g11, g12⟩ := h; exact h6 g6, whole_fail (by rw [rd0, runS_cons, e0, runS_cons, e1, runS_cons, e2, runS_cons, e3, runS_cons, e4, runS_cons, e5, runS_cons]; exact run_bad _ _ e6)⟩
  replace e6 : partS 32 (⟨(s.drop 11), 0, ixN hdMonths ((s.drop 8).take 3) + 1, nVal ((s.drop 5).take 2), 0, 0, 0, ixN hdDays3 (s.take 3), false, false⟩ : Rd) = (⟨(s.drop 12), 0, ixN hdMonths ((s.drop 8).take 3) + 1, nVal ((s.drop 5).take 2), 0, 0, 0, ixN hdDays3 (s.take 3), false, false⟩ : Rd) := e6.trans (by simp only [dd])
  rcases st_y (⟨(s.drop 12), 0, ixN hdMonths ((s.drop 8).take 3) + 1, nVal ((s.drop 5).take 2), 0, 0, 0, ixN hdDays3 (s.take 3), false, false⟩ : Rd) rfl with ⟨h7, e7⟩ | ⟨h7, e7⟩
  rotate_left
  · exact Or.inr ⟨fun h => by obtain ⟨g0, g1, g2, g3, g4, g5, g6, g7, g8, g9, g10, g11, g12⟩ := h; exact h7 g7, whole_fail (by rw [rd0, runS_cons, e0, runS_cons, e1, runS_cons, e2, runS_cons, e3, runS_cons, e4, runS_cons, e5, runS_cons, e6, runS_cons]; exact run_bad _ _ e7)⟩
  replace e7 : partS 121 (⟨(s.drop 12), 0, ixN hdMonths ((s.drop 8).take 3) + 1, nVal ((s.drop 5).take 2), 0, 0, 0, ixN hdDays3 (s.take 3), false, false⟩ : Rd) = (⟨(s.drop 16), nVal ((s.drop 12).take 4), ixN hdMonths ((s.drop 8).take 3) + 1, nVal ((s.drop 5).take 2), 0, 0, 0, ixN hdDays3 (s.take 3), false, false⟩ : Rd) := e7.trans (by simp only [dd])
  rcases st_c 32 (by simp) (⟨(s.drop 16), nVal ((s.drop 12).take 4), ixN hdMonths ((s.drop 8).take 3) + 1, nVal ((s.drop 5).take 2), 0, 0, 0, ixN hdDays3 (s.take 3), false, false⟩ : Rd) rfl with ⟨h8, e8⟩ | ⟨h8, e8⟩
  rotate_left
  · exact Or.inr ⟨fun h => by obtain ⟨g0, g1, g2, g3, g4, g5, g6, g7, g8, g9, g10, g11, g12⟩ := h; exact h8 g8, whole_fail (by rw [rd0, runS_cons, e0, runS_cons, e1, runS_cons, e2, runS_cons, e3, runS_cons, e4, runS_cons, e5, runS_cons, e6, runS_cons, e7, runS_cons]; exact run_bad _ _ e8)⟩
  replace e8 : partS 32 (⟨(s.drop 16), nVal ((s.drop 12).take 4), ixN hdMonths ((s.drop 8).take 3) + 1, nVal ((s.drop 5).take 2), 0, 0, 0, ixN hdDays3 (s.take 3), false, false⟩ : Rd) = (⟨(s.drop 17), nVal ((s.drop 12).take 4), ixN hdMonths ((s.drop 8).take 3) + 1, nVal ((s.drop 5).take 2), 0, 0, 0, ixN hdDays3 (s.take 3), false, false⟩ : Rd) := e8.trans (by simp only [dd])
  rcases st_t (⟨(s.drop 17), nVal ((s.drop 12).take 4), ixN hdMonths ((s.drop 8).take 3) + 1, nVal ((s.drop 5).take 2), 0, 0, 0, ixN hdDays3 (s.take 3), false, false⟩ : Rd) rfl with ⟨h9, e9⟩ | ⟨h9, e9⟩
  rotate_left
  · exact Or.inr ⟨fun h => by obtain ⟨g0, g1, g2, g3, g4, g5, g6, g7, g8, g9, g10, g11, g12⟩ := h; exact h9 g9, whole_fail (by rw [rd0, runS_cons, e0, runS_cons, e1, runS_cons, e2, runS_cons, e3, runS_cons, e4, runS_cons, e5, runS_cons, e6, runS_cons, e7, runS_cons, e8, runS_cons]; exact run_bad _ _ e9)⟩
  replace e9 : partS 116 (⟨(s.drop 17), nVal ((s.drop 12).take 4), ixN hdMonths ((s.drop 8).take 3) + 1, nVal ((s.drop 5).take 2), 0, 0, 0, ixN hdDays3 (s.take 3), false, false⟩ : Rd) = (⟨(s.drop 25), nVal ((s.drop 12).take 4), ixN hdMonths ((s.drop 8).take 3) + 1, nVal ((s.drop 5).take 2), nVal ((s.drop 17).take 2), nVal ((s.drop 20).take 2), nVal ((s.drop 23).take 2), ixN hdDays3 (s.take 3), false, false⟩ : Rd) := e9.trans (by simp only [dd])
  rcases st_c 32 (by simp) (⟨(s.drop 25), nVal ((s.drop 12).take 4), ixN hdMonths ((s.drop 8).take 3) + 1, nVal ((s.drop 5).take 2), nVal ((s.drop 17).take 2), nVal ((s.drop 20).take 2), nVal ((s.drop 23).take 2), ixN hdDays3 (s.take 3), false, false⟩ : Rd) rfl with ⟨h10, e10⟩ | ⟨h10, e10⟩
  rotate_left
  · exact Or.inr ⟨fun h => by obtain ⟨g0, g1, g2, g3, g4, g5, g6, g7, g8, g9, g10, g11, g12⟩ := h; exact h10 g10, whole_fail (by rw [rd0, runS_cons, e0, runS_cons, e1, runS_cons, e2, runS_cons, e3, runS_cons, e4, runS_cons, e5, runS_cons, e6, runS_cons, e7, runS_cons, e8, runS_cons, e9, runS_cons]; exact run_bad _ _ e10)⟩
  replace e10 : partS 32 (⟨(s.drop 25), nVal ((s.drop 12).take 4), ixN hdMonths ((s.drop 8).take 3) + 1, nVal ((s.drop 5).take 2), nVal ((s.drop 17).take 2), nVal ((s.drop 20).take 2), nVal ((s.drop 23).take 2), ixN hdDays3 (s.take 3), false, false⟩ : Rd) = (⟨(s.drop 26), nVal ((s.drop 12).take 4), ixN hdMonths ((s.drop 8).take 3) + 1, nVal ((s.drop 5).take 2), nVal ((s.drop 17).take 2), nVal ((s.drop 20).take 2), nVal ((s.drop 23).take 2), ixN hdDays3 (s.take 3), false, false⟩ : Rd) := e10.trans (by simp only [dd])
  rcases st_z (⟨(s.drop 26), nVal ((s.drop 12).take 4), ixN hdMonths ((s.drop 8).take 3) + 1, nVal ((s.drop 5).take 2), nVal ((s.drop 17).take 2), nVal ((s.drop 20).take 2), nVal ((s.drop 23).take 2), ixN hdDays3 (s.take 3), false, false⟩ : Rd) rfl with ⟨h11, e11⟩ | ⟨h11, e11⟩
  rotate_left
  · exact Or.inr ⟨fun h => by obtain ⟨g0, g1, g2, g3, g4, g5, g6, g7, g8, g9, g10, g11, g12⟩ := h; exact h11 g11, whole_fail (by rw [rd0, runS_cons, e0, runS_cons, e1, runS_cons, e2, runS_cons, e3, runS_cons, e4, runS_cons, e5, runS_cons, e6, runS_cons, e7, runS_cons, e8, runS_cons, e9, runS_cons, e10, runS_cons]; exact run_bad _ _ e11)⟩
  replace e11 : partS 122 (⟨(s.drop 26), nVal ((s.drop 12).take 4), ixN hdMonths ((s.drop 8).take 3) + 1, nVal ((s.drop 5).take 2), nVal ((s.drop 17).take 2), nVal ((s.drop 20).take 2), nVal ((s.drop 23).take 2), ixN hdDays3 (s.take 3), false, false⟩ : Rd) = (⟨(s.drop 29), nVal ((s.drop 12).take 4), ixN hdMonths ((s.drop 8).take 3) + 1, nVal ((s.drop 5).take 2), nVal ((s.drop 17).take 2), nVal ((s.drop 20).take 2), nVal ((s.drop 23).take 2), ixN hdDays3 (s.take 3), false, false⟩ : Rd) := e11.trans (by simp only [dd])
  by_cases hl : s.drop 29 = []
  · refine Or.inl ⟨⟨h0, h1, h2, h3, h4, h5, h6, h7, h8, h9, h10, h11, hl⟩, ?_⟩
    simp only [wholeS, runS_cons, runS_nil, rd0, e0, e1, e2, e3, e4, e5, e6, e7, e8, e9, e10, e11]
    simp [v1, hl]
  · refine Or.inr ⟨fun h => by obtain ⟨g0, g1, g2, g3, g4, g5, g6, g7, g8, g9, g10, g11, g12⟩ := h; exact hl g12, ?_⟩
    simp only [wholeS, runS_cons, runS_nil, rd0, e0, e1, e2, e3, e4, e5, e6, e7, e8, e9, e10, e11]
    simp [hl]
def C2 (s : List UInt8) : Prop := wHit hdDays s = true ∧ (wdS hdDays s).take 1 = [44] ∧ ((wdS hdDays s).drop 1).take 1 = [32] ∧ nOK 2 (((wdS hdDays s).drop 2).take 2) ∧ ((wdS hdDays s).drop 4).take 1 = [45] ∧ ((wdS hdDays s).drop 5).take 3 ∈ hdMonths ∧ ((wdS hdDays s).drop 8).take 1 = [45] ∧ nOK 2 (((wdS hdDays s).drop 9).take 2) ∧ ((wdS hdDays s).drop 11).take 1 = [32] ∧ tOK ((wdS hdDays s).drop 12) ∧ ((wdS hdDays s).drop 20).take 1 = [32] ∧ ((wdS hdDays s).drop 21).take 3 = [71, 77, 84] ∧ (wdS hdDays s).drop 24 = []
def v2 (s : List UInt8) : Rd := ⟨[], nVal (((wdS hdDays s).drop 9).take 2), ixN hdMonths (((wdS hdDays s).drop 5).take 3) + 1, nVal (((wdS hdDays s).drop 2).take 2), nVal (((wdS hdDays s).drop 12).take 2), nVal (((wdS hdDays s).drop 15).take 2), nVal (((wdS hdDays s).drop 18).take 2), wdN hdDays s, true, false⟩
theorem whole2 (s : List UInt8) : (C2 s ∧ wholeS s hdPat2 = v2 s) ∨ (¬ C2 s ∧ (wholeS s hdPat2).bad = true) := by
  unfold hdPat2
  by_cases h0 : wHit hdDays s = true
  rotate_left
  · exact Or.inr ⟨fun h => h0 h.1, whole_fail (by rw [runS_cons]; exact run_bad _ _ (by simp [partS, Rd.word, rd0, wdB, h0]))⟩
  have e0 : partS 87 (⟨s, 0, 0, 0, 0, 0, 0, 0, false, false⟩ : Rd) = (⟨wdS hdDays s, 0, 0, 0, 0, 0, 0, wdN hdDays s, false, false⟩ : Rd) := by simp [partS, Rd.word, wdB, h0]
  rcases st_c 44 (by simp) (⟨(wdS hdDays s), 0, 0, 0, 0, 0, 0, wdN hdDays s, false, false⟩ : Rd) rfl with ⟨h1, e1⟩ | ⟨h1, e1⟩
  rotate_left
  · exact Or.inr ⟨fun h => by obtain ⟨g0, g1, g2, g3, g4, g5, g6, g7, g8, g9, g10, g11, g12⟩ := h; exact h1 g1, whole_fail (by rw [rd0, runS_cons, e0, runS_cons]; exact run_bad _ _ e1)⟩
  replace e1 : partS 44 (⟨(wdS hdDays s), 0, 0, 0, 0, 0, 0, wdN hdDays s, false, false⟩ : Rd) = (⟨((wdS hdDays s).drop 1), 0, 0, 0, 0, 0, 0, wdN hdDays s, false, false⟩ : Rd) := e1
  rcases st_c 32 (by simp) (⟨((wdS hdDays s).drop 1), 0, 0, 0, 0, 0, 0, wdN hdDays s, false, false⟩ : Rd) rfl with ⟨h2, e2⟩ | ⟨h2, e2⟩
  rotate_left
  · exact Or.inr ⟨fun h => by obtain ⟨g0, g1, g2, g3, g4, g5, g6, g7, g8, g9, g10, g11, g12⟩ := h; exact h2 g2, whole_fail (by rw [rd0, runS_cons, e0, runS_cons, e1, runS_cons]; exact run_bad _ _ e2)⟩
  replace e2 : partS 32 (⟨((wdS hdDays s).drop 1), 0, 0, 0, 0, 0, 0, wdN hdDays s, false, false⟩ : Rd) = (⟨((wdS hdDays s).drop 2), 0, 0, 0, 0, 0, 0, wdN hdDays s, false, false⟩ : Rd) := e2.trans (by simp only [dd])
  rcases st_d (⟨((wdS hdDays s).drop 2), 0, 0, 0, 0, 0, 0, wdN hdDays s, false, false⟩ : Rd) rfl with ⟨h3, e3⟩ | ⟨h3, e3⟩
  rotate_left
  · exact Or.inr ⟨fun h => by obtain ⟨g0, g1, g2, g3, g4, g5, g6, g7, g8, g9, g10, g11, g12⟩ := h; exact h3 g3, whole_fail (by rw [rd0, runS_cons, e0, runS_cons, e1, runS_cons, e2, runS_cons]; exact run_bad _ _ e3)⟩
  replace e3 : partS 100 (⟨((wdS hdDays s).drop 2), 0, 0, 0, 0, 0, 0, wdN hdDays s, false, false⟩ : Rd) = (⟨((wdS hdDays s).drop 4), 0, 0, nVal (((wdS hdDays s).drop 2).take 2), 0, 0, 0, wdN hdDays s, false, false⟩ : Rd) := e3.trans (by simp only [dd])
  rcases st_c 45 (by simp) (⟨((wdS hdDays s).drop 4), 0, 0, nVal (((wdS hdDays s).drop 2).take 2), 0, 0, 0, wdN hdDays s, false, false⟩ : Rd) rfl with ⟨h4, e4⟩ | ⟨h4, e4⟩
  rotate_left
  · exact Or.inr ⟨fun h => by obtain ⟨g0, g1, g2, g3, g4, g5, g6, g7, g8, g9, g10, g11, g12⟩ := h; exact h4 g4, whole_fail (by rw [rd0, runS_cons, e0, runS_cons, e1, runS_cons, e2, runS_cons, e3, runS_cons]; exact run_bad _ _ e4)⟩
  replace e4 : partS 45 (⟨((wdS hdDays s).drop 4), 0, 0, nVal (((wdS hdDays s).drop 2).take 2), 0, 0, 0, wdN hdDays s, false, false⟩ : Rd) = (⟨((wdS hdDays s).drop 5), 0, 0, nVal (((wdS hdDays s).drop 2).take 2), 0, 0, 0, wdN hdDays s, false, false⟩ : Rd) := e4.trans (by simp only [dd])
  rcases st_m (⟨((wdS hdDays s).drop 5), 0, 0, nVal (((wdS hdDays s).drop 2).take 2), 0, 0, 0, wdN hdDays s, false, false⟩ : Rd) rfl with ⟨h5, e5⟩ | ⟨h5, e5⟩
  rotate_left
  · exact Or.inr ⟨fun h => by obtain ⟨g0, g1, g2, g3, g4, g5, g6, g7, g8, g9, g10, g11, g12⟩ := h; exact h5 g5, whole_fail (by rw [rd0, runS_cons, e0, runS_cons, e1, runS_cons, e2, runS_cons, e3, runS_cons, e4, runS_cons]; exact run_bad _ _ e5)⟩
  replace e5 : partS 109 (⟨((wdS hdDays s).drop 5), 0, 0, nVal (((wdS hdDays s).drop 2).take 2), 0, 0, 0, wdN hdDays s, false, false⟩ : Rd) = (⟨((wdS hdDays s).drop 8), 0, ixN hdMonths (((wdS hdDays s).drop 5).take 3) + 1, nVal (((wdS hdDays s).drop 2).take 2), 0, 0, 0, wdN hdDays s, false, false⟩ : Rd) := e5.trans (by simp only [dd])
  rcases st_c 45 (by simp) (⟨((wdS hdDays s).drop 8), 0, ixN hdMonths (((wdS hdDays s).drop 5).take 3) + 1, nVal (((wdS hdDays s).drop 2).take 2), 0, 0, 0, wdN hdDays s, false, false⟩ : Rd) rfl with ⟨h6, e6⟩ | ⟨h6, e6⟩
  rotate_left
  · exact Or.inr ⟨fun h => by obtain ⟨g0, g1, g2, g3, g4, g5, g6, g7, g8, g9, g10, g11, g12⟩ := h; exact h6 g6, whole_fail (by rw [rd0, runS_cons, e0, runS_cons, e1, runS_cons, e2, runS_cons, e3, runS_cons, e4, runS_cons, e5, runS_cons]; exact run_bad _ _ e6)⟩
  replace e6 : partS 45 (⟨((wdS hdDays s).drop 8), 0, ixN hdMonths (((wdS hdDays s).drop 5).take 3) + 1, nVal (((wdS hdDays s).drop 2).take 2), 0, 0, 0, wdN hdDays s, false, false⟩ : Rd) = (⟨((wdS hdDays s).drop 9), 0, ixN hdMonths (((wdS hdDays s).drop 5).take 3) + 1, nVal (((wdS hdDays s).drop 2).take 2), 0, 0, 0, wdN hdDays s, false, false⟩ : Rd) := e6.trans (by simp only [dd])
  rcases st_k (⟨((wdS hdDays s).drop 9), 0, ixN hdMonths (((wdS hdDays s).drop 5).take 3) + 1, nVal (((wdS hdDays s).drop 2).take 2), 0, 0, 0, wdN hdDays s, false, false⟩ : Rd) rfl with ⟨h7, e7⟩ | ⟨h7, e7⟩
  rotate_left
  · exact Or.inr ⟨fun h => by obtain ⟨g0, g1, g2, g3, g4, g5, g6, g7, g8, g9, g10, g11, g12⟩ := h; exact h7 g7, whole_fail (by rw [rd0, runS_cons, e0, runS_cons, e1, runS_cons, e2, runS_cons, e3, runS_cons, e4, runS_cons, e5, runS_cons, e6, runS_cons]; exact run_bad _ _ e7)⟩
  replace e7 : partS 107 (⟨((wdS hdDays s).drop 9), 0, ixN hdMonths (((wdS hdDays s).drop 5).take 3) + 1, nVal (((wdS hdDays s).drop 2).take 2), 0, 0, 0, wdN hdDays s, false, false⟩ : Rd) = (⟨((wdS hdDays s).drop 11), nVal (((wdS hdDays s).drop 9).take 2), ixN hdMonths (((wdS hdDays s).drop 5).take 3) + 1, nVal (((wdS hdDays s).drop 2).take 2), 0, 0, 0, wdN hdDays s, true, false⟩ : Rd) := e7.trans (by simp only [dd])
  rcases st_c 32 (by simp) (⟨((wdS hdDays s).drop 11), nVal (((wdS hdDays s).drop 9).take 2), ixN hdMonths (((wdS hdDays s).drop 5).take 3) + 1, nVal (((wdS hdDays s).drop 2).take 2), 0, 0, 0, wdN hdDays s, true, false⟩ : Rd) rfl with ⟨h8, e8⟩ | ⟨h8, e8⟩
  rotate_left
  · exact Or.inr ⟨fun h => by obtain ⟨g0, g1, g2, g3, g4, g5, g6, g7, g8, g9, g10, g11, g12⟩ := h; exact h8 g8, whole_fail (by rw [rd0, runS_cons, e0, runS_cons, e1, runS_cons, e2, runS_cons, e3, runS_cons, e4, runS_cons, e5, runS_cons, e6, runS_cons, e7, runS_cons]; exact run_bad _ _ e8)⟩
  replace e8 : partS 32 (⟨((wdS hdDays s).drop 11), nVal (((wdS hdDays s).drop 9).take 2), ixN hdMonths (((wdS hdDays s).drop 5).take 3) + 1, nVal (((wdS hdDays s).drop 2).take 2), 0, 0, 0, wdN hdDays s, true, false⟩ : Rd) = (⟨((wdS hdDays s).drop 12), nVal (((wdS hdDays s).drop 9).take 2), ixN hdMonths (((wdS hdDays s).drop 5).take 3) + 1, nVal (((wdS hdDays s).drop 2).take 2), 0, 0, 0, wdN hdDays s, true, false⟩ : Rd) := e8.trans (by simp only [dd])
  rcases st_t (⟨((wdS hdDays s).drop 12), nVal (((wdS hdDays s).drop 9).take 2), ixN hdMonths (((wdS hdDays s).drop 5).take 3) + 1, nVal (((wdS hdDays s).drop 2).take 2), 0, 0, 0, wdN hdDays s, true, false⟩ : Rd) rfl with ⟨h9, e9⟩ | ⟨h9, e9⟩
  rotate_left
  · exact Or.inr ⟨fun h => by obtain ⟨g0, g1, g2, g3, g4, g5, g6, g7, g8, g9, g10, g11, g12⟩ := h; exact h9 g9, whole_fail (by rw [rd0, runS_cons, e0, runS_cons, e1, runS_cons, e2, runS_cons, e3, runS_cons, e4, runS_cons, e5, runS_cons, e6, runS_cons, e7, runS_cons, e8, runS_cons]; exact run_bad _ _ e9)⟩
  replace e9 : partS 116 (⟨((wdS hdDays s).drop 12), nVal (((wdS hdDays s).drop 9).take 2), ixN hdMonths (((wdS hdDays s).drop 5).take 3) + 1, nVal (((wdS hdDays s).drop 2).take 2), 0, 0, 0, wdN hdDays s, true, false⟩ : Rd) = (⟨((wdS hdDays s).drop 20), nVal (((wdS hdDays s).drop 9).take 2), ixN hdMonths (((wdS hdDays s).drop 5).take 3) + 1, nVal (((wdS hdDays s).drop 2).take 2), nVal (((wdS hdDays s).drop 12).take 2), nVal (((wdS hdDays s).drop 15).take 2), nVal (((wdS hdDays s).drop 18).take 2), wdN hdDays s, true, false⟩ : Rd) := e9.trans (by simp only [dd])
  rcases st_c 32 (by simp) (⟨((wdS hdDays s).drop 20), nVal (((wdS hdDays s).drop 9).take 2), ixN hdMonths (((wdS hdDays s).drop 5).take 3) + 1, nVal (((wdS hdDays s).drop 2).take 2), nVal (((wdS hdDays s).drop 12).take 2), nVal (((wdS hdDays s).drop 15).take 2), nVal (((wdS hdDays s).drop 18).take 2), wdN hdDays s, true, false⟩ : Rd) rfl with ⟨h10, e10⟩ | ⟨h10, e10⟩
  rotate_left
  · exact Or.inr ⟨fun h => by obtain ⟨g0, g1, g2, g3, g4, g5, g6, g7, g8, g9, g10, g11, g12⟩ := h; exact h10 g10, whole_fail (by rw [rd0, runS_cons, e0, runS_cons, e1, runS_cons, e2, runS_cons, e3, runS_cons, e4, runS_cons, e5, runS_cons, e6, runS_cons, e7, runS_cons, e8, runS_cons, e9, runS_cons]; exact run_bad _ _ e10)⟩
  replace e10 : partS 32 (⟨((wdS hdDays s).drop 20), nVal (((wdS hdDays s).drop 9).take 2), ixN hdMonths (((wdS hdDays s).drop 5).take 3) + 1, nVal (((wdS hdDays s).drop 2).take 2), nVal (((wdS hdDays s).drop 12).take 2), nVal (((wdS hdDays s).drop 15).take 2), nVal (((wdS hdDays s).drop 18).take 2), wdN hdDays s, true, false⟩ : Rd) = (⟨((wdS hdDays s).drop 21), nVal (((wdS hdDays s).drop 9).take 2), ixN hdMonths (((wdS hdDays s).drop 5).take 3) + 1, nVal (((wdS hdDays s).drop 2).take 2), nVal (((wdS hdDays s).drop 12).take 2), nVal (((wdS hdDays s).drop 15).take 2), nVal (((wdS hdDays s).drop 18).take 2), wdN hdDays s, true, false⟩ : Rd) := e10.trans (by simp only [dd])
  rcases st_z (⟨((wdS hdDays s).drop 21), nVal (((wdS hdDays s).drop 9).take 2), ixN hdMonths (((wdS hdDays s).drop 5).take 3) + 1, nVal (((wdS hdDays s).drop 2).take 2), nVal (((wdS hdDays s).drop 12).take 2), nVal (((wdS hdDays s).drop 15).take 2), nVal (((wdS hdDays s).drop 18).take 2), wdN hdDays s, true, false⟩ : Rd) rfl with ⟨h11, e11⟩ | ⟨h11, e11⟩
  rotate_left
  · exact Or.inr ⟨fun h => by obtain ⟨g0, g1, g2, g3, g4, g5, g6, g7, g8, g9, g10, g11, g12⟩ := h; exact h11 g11, whole_fail (by rw [rd0, runS_cons, e0, runS_cons, e1, runS_cons, e2, runS_cons, e3, runS_cons, e4, runS_cons, e5, runS_cons, e6, runS_cons, e7, runS_cons, e8, runS_cons, e9, runS_cons, e10, runS_cons]; exact run_bad _ _ e11)⟩
  replace e11 : partS 122 (⟨((wdS hdDays s).drop 21), nVal (((wdS hdDays s).drop 9).take 2), ixN hdMonths (((wdS hdDays s).drop 5).take 3) + 1, nVal (((wdS hdDays s).drop 2).take 2), nVal (((wdS hdDays s).drop 12).take 2), nVal (((wdS hdDays s).drop 15).take 2), nVal (((wdS hdDays s).drop 18).take 2), wdN hdDays s, true, false⟩ : Rd) = (⟨((wdS hdDays s).drop 24), nVal (((wdS hdDays s).drop 9).take 2), ixN hdMonths (((wdS hdDays s).drop 5).take 3) + 1, nVal (((wdS hdDays s).drop 2).take 2), nVal (((wdS hdDays s).drop 12).take 2), nVal (((wdS hdDays s).drop 15).take 2), nVal (((wdS hdDays s).drop 18).take 2), wdN hdDays s, true, false⟩ : Rd) := e11.trans (by simp only [dd])
  by_cases hl : (wdS hdDays s).drop 24 = []
  · refine Or.inl ⟨⟨h0, h1, h2, h3, h4, h5, h6, h7, h8, h9, h10, h11, hl⟩, ?_⟩
    simp only [wholeS, runS_cons, runS_nil, rd0, e0, e1, e2, e3, e4, e5, e6, e7, e8, e9, e10, e11]
    simp [v2, hl]
  · refine Or.inr ⟨fun h => by obtain ⟨g0, g1, g2, g3, g4, g5, g6, g7, g8, g9, g10, g11, g12⟩ := h; exact hl g12, ?_⟩
    simp only [wholeS, runS_cons, runS_nil, rd0, e0, e1, e2, e3, e4, e5, e6, e7, e8, e9, e10, e11]
    simp [hl]
def C3 (s : List UInt8) : Prop := s.take 3 ∈ hdDays3 ∧ (s.drop 3).take 1 = [32] ∧ (s.drop 4).take 3 ∈ hdMonths ∧ (s.drop 7).take 1 = [32] ∧ bOK (s.drop 8) ∧ (s.drop 10).take 1 = [32] ∧ tOK (s.drop 11) ∧ (s.drop 19).take 1 = [32] ∧ nOK 4 ((s.drop 20).take 4) ∧ s.drop 24 = []
def v3 (s : List UInt8) : Rd := ⟨[], nVal ((s.drop 20).take 4), ixN hdMonths ((s.drop 4).take 3) + 1, bVal (s.drop 8), nVal ((s.drop 11).take 2), nVal ((s.drop 14).take 2), nVal ((s.drop 17).take 2), ixN hdDays3 (s.take 3), false, false⟩
theorem whole3 (s : List UInt8) : (C3 s ∧ wholeS s hdPat3 = v3 s) ∨ (¬ C3 s ∧ (wholeS s hdPat3).bad = true) := by
  unfold hdPat3
  rcases st_w (⟨s, 0, 0, 0, 0, 0, 0, 0, false, false⟩ : Rd) rfl with ⟨h0, e0⟩ | ⟨h0, e0⟩
  rotate_left
  · exact Or.inr ⟨fun h => by obtain ⟨g0, g1, g2, g3, g4, g5, g6, g7, g8, g9⟩ := h; exact h0 g0, whole_fail (by rw [rd0, runS_cons]; exact run_bad _ _ e0)⟩
  replace e0 : partS 119 (⟨s, 0, 0, 0, 0, 0, 0, 0, false, false⟩ : Rd) = (⟨(s.drop 3), 0, 0, 0, 0, 0, 0, ixN hdDays3 (s.take 3), false, false⟩ : Rd) := e0
  rcases st_c 32 (by simp) (⟨(s.drop 3), 0, 0, 0, 0, 0, 0, ixN hdDays3 (s.take 3), false, false⟩ : Rd) rfl with ⟨h1, e1⟩ | ⟨h1, e1⟩
  rotate_left
  · exact Or.inr ⟨fun h => by obtain ⟨g0, g1, g2, g3, g4, g5, g6, g7, g8, g9⟩ := h; exact h1 g1, whole_fail (by rw [rd0, runS_cons, e0, runS_cons]; exact run_bad _ _ e1)⟩
  replace e1 : partS 32 (⟨(s.drop 3), 0, 0, 0, 0, 0, 0, ixN hdDays3 (s.take 3), false, false⟩ : Rd) = (⟨(s.drop 4), 0, 0, 0, 0, 0, 0, ixN hdDays3 (s.take 3), false, false⟩ : Rd) := e1.trans (by simp only [dd])
  rcases st_m (⟨(s.drop 4), 0, 0, 0, 0, 0, 0, ixN hdDays3 (s.take 3), false, false⟩ : Rd) rfl with ⟨h2, e2⟩ | ⟨h2, e2⟩
  rotate_left
  · exact Or.inr ⟨fun h => by obtain ⟨g0, g1, g2, g3, g4, g5, g6, g7, g8, g9⟩ := h; exact h2 g2, whole_fail (by rw [rd0, runS_cons, e0, runS_cons, e1, runS_cons]; exact run_bad _ _ e2)⟩
  replace e2 : partS 109 (⟨(s.drop 4), 0, 0, 0, 0, 0, 0, ixN hdDays3 (s.take 3), false, false⟩ : Rd) = (⟨(s.drop 7), 0, ixN hdMonths ((s.drop 4).take 3) + 1, 0, 0, 0, 0, ixN hdDays3 (s.take 3), false, false⟩ : Rd) := e2.trans (by simp only [dd])
  rcases st_c 32 (by simp) (⟨(s.drop 7), 0, ixN hdMonths ((s.drop 4).take 3) + 1, 0, 0, 0, 0, ixN hdDays3 (s.take 3), false, false⟩ : Rd) rfl with ⟨h3, e3⟩ | ⟨h3, e3⟩
  rotate_left
  · exact Or.inr ⟨fun h => by obtain ⟨g0, g1, g2, g3, g4, g5, g6, g7, g8, g9⟩ := h; exact h3 g3, whole_fail (by rw [rd0, runS_cons, e0, runS_cons, e1, runS_cons, e2, runS_cons]; exact run_bad _ _ e3)⟩
  replace e3 : partS 32 (⟨(s.drop 7), 0, ixN hdMonths ((s.drop 4).take 3) + 1, 0, 0, 0, 0, ixN hdDays3 (s.take 3), false, false⟩ : Rd) = (⟨(s.drop 8), 0, ixN hdMonths ((s.drop 4).take 3) + 1, 0, 0, 0, 0, ixN hdDays3 (s.take 3), false, false⟩ : Rd) := e3.trans (by simp only [dd])
  rcases st_b (⟨(s.drop 8), 0, ixN hdMonths ((s.drop 4).take 3) + 1, 0, 0, 0, 0, ixN hdDays3 (s.take 3), false, false⟩ : Rd) rfl with ⟨h4, e4⟩ | ⟨h4, e4⟩
  rotate_left
  · exact Or.inr ⟨fun h => by obtain ⟨g0, g1, g2, g3, g4, g5, g6, g7, g8, g9⟩ := h; exact h4 g4, whole_fail (by rw [rd0, runS_cons, e0, runS_cons, e1, runS_cons, e2, runS_cons, e3, runS_cons]; exact run_bad _ _ e4)⟩
  replace e4 : partS 98 (⟨(s.drop 8), 0, ixN hdMonths ((s.drop 4).take 3) + 1, 0, 0, 0, 0, ixN hdDays3 (s.take 3), false, false⟩ : Rd) = (⟨(s.drop 10), 0, ixN hdMonths ((s.drop 4).take 3) + 1, bVal (s.drop 8), 0, 0, 0, ixN hdDays3 (s.take 3), false, false⟩ : Rd) := e4.trans (by simp only [dd])
  rcases st_c 32 (by simp) (⟨(s.drop 10), 0, ixN hdMonths ((s.drop 4).take 3) + 1, bVal (s.drop 8), 0, 0, 0, ixN hdDays3 (s.take 3), false, false⟩ : Rd) rfl with ⟨h5, e5⟩ | ⟨h5, e5⟩
  rotate_left
  · exact Or.inr ⟨fun h => by obtain ⟨g0, g1, g2, g3, g4, g5, g6, g7, g8, g9⟩ := h; exact h5 g5, whole_fail (by rw [rd0, runS_cons, e0, runS_cons, e1, runS_cons, e2, runS_cons, e3, runS_cons, e4, runS_cons]; exact run_bad _ _ e5)⟩
  replace e5 : partS 32 (⟨(s.drop 10), 0, ixN hdMonths ((s.drop 4).take 3) + 1, bVal (s.drop 8), 0, 0, 0, ixN hdDays3 (s.take 3), false, false⟩ : Rd) = (⟨(s.drop 11), 0, ixN hdMonths ((s.drop 4).take 3) + 1, bVal (s.drop 8), 0, 0, 0, ixN hdDays3 (s.take 3), false, false⟩ : Rd) := e5.trans (by simp only [dd])
  rcases st_t (⟨(s.drop 11), 0, ixN hdMonths ((s.drop 4).take 3) + 1, bVal (s.drop 8), 0, 0, 0, ixN hdDays3 (s.take 3), false, false⟩ : Rd) rfl with ⟨h6, e6⟩ | ⟨h6, e6⟩
  rotate_left
  · exact Or.inr ⟨fun h => by obtain ⟨g0, g1, g2, g3, g4, g5, g6, g7, g8, g9⟩ := h; exact h6 g6, whole_fail (by rw [rd0, runS_cons, e0, runS_cons, e1, runS_cons, e2, runS_cons, e3, runS_cons, e4, runS_cons, e5, runS_cons]; exact run_bad _ _ e6)⟩
  replace e6 : partS 116 (⟨(s.drop 11), 0, ixN hdMonths ((s.drop 4).take 3) + 1, bVal (s.drop 8), 0, 0, 0, ixN hdDays3 (s.take 3), false, false⟩ : Rd) = (⟨(s.drop 19), 0, ixN hdMonths ((s.drop 4).take 3) + 1, bVal (s.drop 8), nVal ((s.drop 11).take 2), nVal ((s.drop 14).take 2), nVal ((s.drop 17).take 2), ixN hdDays3 (s.take 3), false, false⟩ : Rd) := e6.trans (by simp only [dd])
  rcases st_c 32 (by simp) (⟨(s.drop 19), 0, ixN hdMonths ((s.drop 4).take 3) + 1, bVal (s.drop 8), nVal ((s.drop 11).take 2), nVal ((s.drop 14).take 2), nVal ((s.drop 17).take 2), ixN hdDays3 (s.take 3), false, false⟩ : Rd) rfl with ⟨h7, e7⟩ | ⟨h7, e7⟩
  rotate_left
  · exact Or.inr ⟨fun h => by obtain ⟨g0, g1, g2, g3, g4, g5, g6, g7, g8, g9⟩ := h; exact h7 g7, whole_fail (by rw [rd0, runS_cons, e0, runS_cons, e1, runS_cons, e2, runS_cons, e3, runS_cons, e4, runS_cons, e5, runS_cons, e6, runS_cons]; exact run_bad _ _ e7)⟩
  replace e7 : partS 32 (⟨(s.drop 19), 0, ixN hdMonths ((s.drop 4).take 3) + 1, bVal (s.drop 8), nVal ((s.drop 11).take 2), nVal ((s.drop 14).take 2), nVal ((s.drop 17).take 2), ixN hdDays3 (s.take 3), false, false⟩ : Rd) = (⟨(s.drop 20), 0, ixN hdMonths ((s.drop 4).take 3) + 1, bVal (s.drop 8), nVal ((s.drop 11).take 2), nVal ((s.drop 14).take 2), nVal ((s.drop 17).take 2), ixN hdDays3 (s.take 3), false, false⟩ : Rd) := e7.trans (by simp only [dd])
  rcases st_y (⟨(s.drop 20), 0, ixN hdMonths ((s.drop 4).take 3) + 1, bVal (s.drop 8), nVal ((s.drop 11).take 2), nVal ((s.drop 14).take 2), nVal ((s.drop 17).take 2), ixN hdDays3 (s.take 3), false, false⟩ : Rd) rfl with ⟨h8, e8⟩ | ⟨h8, e8⟩
  rotate_left
  · exact Or.inr ⟨fun h => by obtain ⟨g0, g1, g2, g3, g4, g5, g6, g7, g8, g9⟩ := h; exact h8 g8, whole_fail (by rw [rd0, runS_cons, e0, runS_cons, e1, runS_cons, e2, runS_cons, e3, runS_cons, e4, runS_cons, e5, runS_cons, e6, runS_cons, e7, runS_cons]; exact run_bad _ _ e8)⟩
  replace e8 : partS 121 (⟨(s.drop 20), 0, ixN hdMonths ((s.drop 4).take 3) + 1, bVal (s.drop 8), nVal ((s.drop 11).take 2), nVal ((s.drop 14).take 2), nVal ((s.drop 17).take 2), ixN hdDays3 (s.take 3), false, false⟩ : Rd) = (⟨(s.drop 24), nVal ((s.drop 20).take 4), ixN hdMonths ((s.drop 4).take 3) + 1, bVal (s.drop 8), nVal ((s.drop 11).take 2), nVal ((s.drop 14).take 2), nVal ((s.drop 17).take 2), ixN hdDays3 (s.take 3), false, false⟩ : Rd) := e8.trans (by simp only [dd])
  by_cases hl : s.drop 24 = []
  · refine Or.inl ⟨⟨h0, h1, h2, h3, h4, h5, h6, h7, h8, hl⟩, ?_⟩
    simp only [wholeS, runS_cons, runS_nil, rd0, e0, e1, e2, e3, e4, e5, e6, e7, e8]
    simp [v3, hl]
  · refine Or.inr ⟨fun h => by obtain ⟨g0, g1, g2, g3, g4, g5, g6, g7, g8, g9⟩ := h; exact hl g9, ?_⟩
    simp only [wholeS, runS_cons, runS_nil, rd0, e0, e1, e2, e3, e4, e5, e6, e7, e8]
    simp [hl]
end Go.Mdl
end
section
set_option linter.unusedVariables false
set_option linter.unusedSimpArgs false
namespace Go.Mdl
open Go Go.Abs
structure Dt where
  y : Int
  mo : Int
  d : Int
  h : Int
  mi : Int
  se : Int
def dt0 : Dt := ⟨0, 0, 0, 0, 0, 0⟩
def numN (s : List UInt8) : Int := if numErr 10 9999 s = 0 then numVal 10 9999 s else -1
def tiOk (s : List UInt8) : Bool := decide (s.length = 8) && decide (s.getD 2 0 = 58) && decide (s.getD 5 0 = 58)
def tiD (s : List UInt8) (d : Dt) : Dt := if tiOk s = true then { d with h := numN (s.take 2), mi := numN ((s.take 5).drop 3), se := numN (s.drop 6) } else d
def tiB (s : List UInt8) : Bool := tiOk s && decide (0 ≤ numN (s.take 2)) && decide (0 ≤ numN ((s.take 5).drop 3)) && decide (0 ≤ numN (s.drop 6))
structure Fm where
  d : Dt
  week : Int
  ok : Bool
def cmI (s : List UInt8) : Nat := s.findIdx (fun c => c == 44)
def f2Ok (s r : List UInt8) : Bool := decide (0 ≤ ixN hdDays s) && decide (r.length = 24) && decide (r.take 2 = [44, 32]) && decide (r.getD 4 0 = 45) && decide (r.getD 8 0 = 45) && decide (r.getD 11 0 = 32) && decide (r.drop 20 = [32, 71, 77, 84])
def f2D (r : List UInt8) : Dt := { dt0 with d := numN ((r.take 4).drop 2), mo := ixN hdMonths ((r.take 8).drop 5) + 1, y := numN ((r.take 11).drop 9) }
def dtOk (d : Dt) : Bool := decide (0 ≤ d.d) && decide (1 ≤ d.mo) && decide (0 ≤ d.y)
def form2 (ty : Int) (s : List UInt8) : Fm :=
  let a := s.take (cmI s)
  let r := s.drop (cmI s)
  if f2Ok a r = true then
    if dtOk (f2D r) = true then
      ⟨tiD ((r.take 20).drop 12) { f2D r with y := nearI (f2D r).y ty }, ixN hdDays a, tiB ((r.take 20).drop 12)⟩
    else ⟨f2D r, 0, false⟩
  else ⟨dt0, 0, false⟩
def wkI (s : List UInt8) : Int := if 3 < s.length then ixN hdDays3 (s.take 3) else -1
def f1Ok (s : List UInt8) : Bool := decide (s.length = 29) && decide ((s.take 5).drop 3 = [44, 32]) && decide (s.getD 7 0 = 32) && decide (s.getD 11 0 = 32) && decide (s.getD 16 0 = 32) && decide (s.drop 25 = [32, 71, 77, 84])
def f1D (s : List UInt8) : Dt := { dt0 with d := numN ((s.take 7).drop 5), mo := ixN hdMonths ((s.take 11).drop 8) + 1, y := numN ((s.take 16).drop 12) }
def form1 (s : List UInt8) : Fm :=
  if wkI s < 0 then ⟨dt0, 0, false⟩ else
  if f1Ok s = true then ⟨tiD ((s.take 25).drop 17) (f1D s), wkI s, tiB ((s.take 25).drop 17) && dtOk (f1D s)⟩ else ⟨dt0, 0, false⟩
def f3Ok (s : List UInt8) : Bool := decide (s.length = 24) && decide (s.getD 3 0 = 32) && decide (s.getD 7 0 = 32) && decide (s.getD 10 0 = 32) && decide (s.getD 19 0 = 32)
def f3D (s : List UInt8) : Dt := { dt0 with d := if s.getD 8 0 = 32 then numN ((s.take 10).drop 9) else numN ((s.take 10).drop 8), mo := ixN hdMonths ((s.take 7).drop 4) + 1, y := numN (s.drop 20) }
def form3 (s : List UInt8) : Fm :=
  if wkI s < 0 then ⟨dt0, 0, false⟩ else
  if f3Ok s = true then ⟨tiD ((s.take 19).drop 11) (f3D s), wkI s, tiB ((s.take 19).drop 11) && dtOk (f3D s)⟩ else ⟨dt0, 0, false⟩
def formF (s : List UInt8) (form ty : Int) : Fm := if form = 2 then form2 ty s else if form = 1 then form1 s else form3 s
theorem take1_getD {s : List UInt8} {k : Nat} (h : k < s.length) (c : UInt8) : ((s.drop k).take 1 = [c]) = (s.getD k 0 = c) := by
  rw [List.drop_eq_getElem_cons h, List.take_succ_cons, List.take_zero, List.getD_eq_getElem?_getD, List.getElem?_eq_getElem h]
  simp
theorem drop_take' (s : List UInt8) (a b : Nat) : (s.take b).drop a = (s.drop a).take (b - a) := by rw [List.drop_take]
theorem take_two (x : List UInt8) (a b : UInt8) : (x.take 2 = [a, b]) = (x.take 1 = [a] ∧ (x.drop 1).take 1 = [b]) := by
  rcases x with _ | ⟨p, _ | ⟨q, r⟩⟩ <;> simp
theorem numN_ge (s : List UInt8) : (0 ≤ numN s) = (numErr 10 9999 s = 0) := by
  unfold numN
  by_cases h : numErr 10 9999 s = 0
  · rw [if_pos h]
    have : 0 ≤ numVal 10 9999 s := by
      rw [numVal, if_pos h]
      unfold numErr at h
      split at h
      · omega
      · split at h
        · rename_i h2; exact numV_nonneg (by omega) _ h2
        · omega
    simp [h, this]
  · rw [if_neg h]; simp [h]
theorem numN_of {s : List UInt8} (h : numErr 10 9999 s = 0) : numN s = nVal s := by rw [numN, if_pos h]; rfl
theorem nOK_of {w : Nat} {x : List UInt8} (h : x.length = w) : nOK w x = (numErr 10 9999 x = 0) := by simp [nOK, h]
theorem gmt_tail {x : List UInt8} (h : x.length = 4) : (x = [32, 71, 77, 84]) = (x.take 1 = [32] ∧ (x.drop 1).take 3 = [71, 77, 84]) := by
  rcases x with _ | ⟨p, _ | ⟨q, _ | ⟨r, _ | ⟨t, u⟩⟩⟩⟩ <;> simp at h ⊢
  subst h
  simp
theorem tiB_iff {x : List UInt8} (h : 8 ≤ x.length) : (tiB (x.take 8) = true) = tOK x := by
  have l8 : (x.take 8).length = 8 := by rw [List.length_take]; omega
  have e1 : (x.take 8).take 2 = x.take 2 := by rw [List.take_take]; rfl
  have e2 : ((x.take 8).take 5).drop 3 = (x.drop 3).take 2 := by rw [List.take_take, drop_take']; rfl
  have e3 : (x.take 8).drop 6 = (x.drop 6).take 2 := by rw [List.drop_take]
  have g2 : ((x.take 8).getD 2 0 = 58) = ((x.drop 2).take 1 = [58]) := by
    rw [take1_getD (by omega), List.getD_eq_getElem?_getD, List.getElem?_take_of_lt (by omega), ← List.getD_eq_getElem?_getD]
  have g5 : ((x.take 8).getD 5 0 = 58) = ((x.drop 5).take 1 = [58]) := by
    rw [take1_getD (by omega), List.getD_eq_getElem?_getD, List.getElem?_take_of_lt (by omega), ← List.getD_eq_getElem?_getD]
  have n1 : (x.take 2).length = 2 := by rw [List.length_take]; omega
  have n2 : ((x.drop 3).take 2).length = 2 := by rw [List.length_take, List.length_drop]; omega
  have n3 : ((x.drop 6).take 2).length = 2 := by rw [List.length_take, List.length_drop]; omega
  unfold tiB tiOk tOK
  simp only [e1, e2, e3, l8, numN_ge, nOK_of n1, nOK_of n2, nOK_of n3, Bool.and_eq_true, decide_eq_true_eq, g2, g5, eq_iff_iff]
  constructor
  · rintro ⟨⟨⟨⟨⟨_, a⟩, b⟩, c⟩, d⟩, e⟩; exact ⟨c, a, d, b, e⟩
  · rintro ⟨c, a, d, b, e⟩; exact ⟨⟨⟨⟨⟨trivial, a⟩, b⟩, c⟩, d⟩, e⟩
theorem tiD_of {x : List UInt8} (h : 8 ≤ x.length) (ht : tOK x) (d : Dt) : tiD (x.take 8) d = { d with h := nVal (x.take 2), mi := nVal ((x.drop 3).take 2), se := nVal ((x.drop 6).take 2) } := by
  have hb : tiB (x.take 8) = true := by rw [tiB_iff h]; exact ht
  have e1 : (x.take 8).take 2 = x.take 2 := by rw [List.take_take]; rfl
  have e2 : ((x.take 8).take 5).drop 3 = (x.drop 3).take 2 := by rw [List.take_take, drop_take']; rfl
  have e3 : (x.take 8).drop 6 = (x.drop 6).take 2 := by rw [List.drop_take]
  obtain ⟨a, _, b, _, c⟩ := ht
  have hok : tiOk (x.take 8) = true := by
    unfold tiB at hb
    simp only [Bool.and_eq_true] at hb
    exact hb.1.1.1
  rw [tiD, if_pos hok, e1, e2, e3, numN_of a.2, numN_of b.2, numN_of c.2]
theorem wk_ge {s : List UInt8} (h : 3 < s.length) : (¬ wkI s < 0) = (s.take 3 ∈ hdDays3) := by
  unfold wkI
  rw [if_pos h, ← ixN_ge, Int.not_lt]
theorem form1_ok (s : List UInt8) : ((form1 s).ok = true ↔ C1 s) ∧ (C1 s → form1 s = ⟨⟨(v1 s).y, (v1 s).mo, (v1 s).d, (v1 s).h, (v1 s).mi, (v1 s).se⟩, (v1 s).week, true⟩) := by
  by_cases hl : s.length = 29
  rotate_left
  · have n1 : (form1 s).ok = false := by
      unfold form1 f1Ok
      split
      · rfl
      · simp [hl]
    have n2 : ¬ C1 s := by
      rintro ⟨-, -, -, -, -, -, -, -, -, -, -, h1, h2⟩
      have := congrArg List.length h1
      have := congrArg List.length h2
      simp at *
      omega
    exact ⟨by simp [n1, n2], fun h => absurd h n2⟩
  have q1 := take1_getD (s := s) (k := 7) (by omega) 32
  have q2 := take1_getD (s := s) (k := 11) (by omega) 32
  have q3 := take1_getD (s := s) (k := 16) (by omega) 32
  have q4 : ((s.take 5).drop 3 = [44, 32]) = ((s.drop 3).take 1 = [44] ∧ (s.drop 4).take 1 = [32]) := by
    rw [drop_take', take_two, dd]
  have q5 : (s.drop 25 = [32, 71, 77, 84]) = ((s.drop 25).take 1 = [32] ∧ (s.drop 26).take 3 = [71, 77, 84]) := by
    rw [gmt_tail (by rw [List.length_drop]; omega), dd]
  have q6 : (s.take 25).drop 17 = (s.drop 17).take 8 := by rw [drop_take']
  have q7 : (tiB ((s.drop 17).take 8) = true) = tOK (s.drop 17) := tiB_iff (by rw [List.length_drop]; omega)
  have q8 : s.drop 29 = [] := by rw [List.drop_eq_nil_iff]; omega
  have a1 : (s.take 7).drop 5 = (s.drop 5).take 2 := by rw [drop_take']
  have a2 : (s.take 11).drop 8 = (s.drop 8).take 3 := by rw [drop_take']
  have a3 : (s.take 16).drop 12 = (s.drop 12).take 4 := by rw [drop_take']
  have b1 := nOK_of (w := 2) (x := (s.drop 5).take 2) (by rw [List.length_take, List.length_drop]; omega)
  have b2 := nOK_of (w := 4) (x := (s.drop 12).take 4) (by rw [List.length_take, List.length_drop]; omega)
  have k1 := wk_ge (s := s) (by omega)
  have k2 : wkI s = ixN hdDays3 (s.take 3) := by rw [wkI, if_pos (by omega)]
  have k3 : (1 ≤ ixN hdMonths ((s.drop 8).take 3) + 1) = ((s.drop 8).take 3 ∈ hdMonths) := by rw [← ixN_ge]; simp only [eq_iff_iff]; omega
  have key : (form1 s).ok = true ↔ C1 s := by
    unfold form1 C1
    by_cases hw : wkI s < 0
    · rw [if_pos hw]
      have : ¬ s.take 3 ∈ hdDays3 := by rw [← k1]; simpa using hw
      simp [this]
    rw [if_neg hw]
    have hw' : s.take 3 ∈ hdDays3 := by rw [← k1]; exact hw
    by_cases hf : f1Ok s = true
    · rw [if_pos hf]
      simp only [f1Ok, Bool.and_eq_true, decide_eq_true_eq, q4, ← q1, ← q2, ← q3, q5] at hf
      obtain ⟨⟨⟨⟨⟨_, f1, f2⟩, f3⟩, f4⟩, f5⟩, f6, f7⟩ := hf
      simp only [q6, Bool.and_eq_true, q7, dtOk, f1D, decide_eq_true_eq, a1, a2, a3, numN_ge, k3, b1, b2, hw', f1, f2, f3, f4, f5, f6, f7, q8, true_and, and_true]
      constructor
      · rintro ⟨t, ⟨x, y⟩, z⟩; exact ⟨x, y, z, t⟩
      · rintro ⟨x, y, z, t⟩; exact ⟨t, ⟨x, y⟩, z⟩
    · rw [if_neg hf]
      simp only [f1Ok, Bool.and_eq_true, decide_eq_true_eq, q4, ← q1, ← q2, ← q3, q5] at hf
      constructor
      · intro h; cases h
      · rintro ⟨_, c2, c3, _, c5, _, c7, _, c9, _, c11, c12, _⟩
        exact absurd ⟨⟨⟨⟨⟨hl, c2, c3⟩, c5⟩, c7⟩, c9⟩, c11, c12⟩ hf
  refine ⟨key, fun hC => ?_⟩
  have hok := key.2 hC
  obtain ⟨h0, -, -, h3, -, h5, -, h7, -, h9, -, -, -⟩ := hC
  have hw : ¬ wkI s < 0 := by rw [k1]; exact h0
  unfold form1 at hok ⊢
  rw [if_neg hw] at hok ⊢
  by_cases hf : f1Ok s = true
  · rw [if_pos hf] at hok ⊢
    simp only at hok
    rw [hok, q6, tiD_of (by rw [List.length_drop]; omega) h9]
    simp only [f1D, dt0, a1, a2, a3, numN_of h3.2, numN_of h7.2, k2, v1, dd]
  · rw [if_neg hf] at hok; cases hok
theorem bd_ge {s : List UInt8} (hl : s.length = 24) : (0 ≤ (f3D s).d) = bOK (s.drop 8) ∧ (bOK (s.drop 8) → (f3D s).d = bVal (s.drop 8)) := by
  have q := take1_getD (s := s) (k := 8) (by omega) 32
  have a1 : (s.take 10).drop 9 = ((s.drop 8).drop 1).take 1 := by rw [drop_take', dd]
  have a2 : (s.take 10).drop 8 = (s.drop 8).take 2 := by rw [drop_take']
  have b1 := nOK_of (w := 1) (x := ((s.drop 8).drop 1).take 1) (by rw [List.length_take, List.length_drop, List.length_drop]; omega)
  have b2 := nOK_of (w := 2) (x := (s.drop 8).take 2) (by rw [List.length_take, List.length_drop]; omega)
  unfold f3D bOK bVal
  simp only [a1, a2, ← q, b1, b2]
  by_cases h : (s.drop 8).take 1 = [32]
  · simp only [h, if_true, not_true, false_and, or_false, true_and, numN_ge]
    exact fun g => numN_of g
  · simp only [h, if_false, not_false_iff, false_and, false_or, true_and, numN_ge]
    exact fun g => numN_of g
theorem form3_ok (s : List UInt8) : ((form3 s).ok = true ↔ C3 s) ∧ (C3 s → form3 s = ⟨⟨(v3 s).y, (v3 s).mo, (v3 s).d, (v3 s).h, (v3 s).mi, (v3 s).se⟩, (v3 s).week, true⟩) := by
  by_cases hl : s.length = 24
  rotate_left
  · have n1 : (form3 s).ok = false := by
      unfold form3 f3Ok
      split
      · rfl
      · simp [hl]
    have n2 : ¬ C3 s := by
      rintro ⟨-, -, -, -, -, -, -, -, h1, h2⟩
      have h1 := h1.1
      have := congrArg List.length h2
      simp at *
      omega
    exact ⟨by simp [n1, n2], fun h => absurd h n2⟩
  have q1 := take1_getD (s := s) (k := 3) (by omega) 32
  have q2 := take1_getD (s := s) (k := 7) (by omega) 32
  have q3 := take1_getD (s := s) (k := 10) (by omega) 32
  have q4 := take1_getD (s := s) (k := 19) (by omega) 32
  have q6 : (s.take 19).drop 11 = (s.drop 11).take 8 := by rw [drop_take']
  have q7 : (tiB ((s.drop 11).take 8) = true) = tOK (s.drop 11) := tiB_iff (by rw [List.length_drop]; omega)
  have q8 : s.drop 24 = [] := by rw [List.drop_eq_nil_iff]; omega
  have a2 : (s.take 7).drop 4 = (s.drop 4).take 3 := by rw [drop_take']
  have a3 : s.drop 20 = (s.drop 20).take 4 := by rw [List.take_of_length_le]; rw [List.length_drop]; omega
  have b2 := nOK_of (w := 4) (x := (s.drop 20).take 4) (by rw [List.length_take, List.length_drop]; omega)
  have k1 := wk_ge (s := s) (by omega)
  have k2 : wkI s = ixN hdDays3 (s.take 3) := by rw [wkI, if_pos (by omega)]
  have k3 : (1 ≤ ixN hdMonths ((s.drop 4).take 3) + 1) = ((s.drop 4).take 3 ∈ hdMonths) := by rw [← ixN_ge]; simp only [eq_iff_iff]; omega
  obtain ⟨k4, k5⟩ := bd_ge hl
  have k6 : (f3D s).mo = ixN hdMonths ((s.drop 4).take 3) + 1 := by simp only [f3D, a2]
  have k7 : (f3D s).y = numN ((s.drop 20).take 4) := by rw [← a3]; rfl
  have key : (form3 s).ok = true ↔ C3 s := by
    unfold form3 C3
    by_cases hw : wkI s < 0
    · rw [if_pos hw]
      have : ¬ s.take 3 ∈ hdDays3 := by rw [← k1]; simpa using hw
      simp [this]
    rw [if_neg hw]
    have hw' : s.take 3 ∈ hdDays3 := by rw [← k1]; exact hw
    by_cases hf : f3Ok s = true
    · rw [if_pos hf]
      simp only [f3Ok, Bool.and_eq_true, decide_eq_true_eq, ← q1, ← q2, ← q3, ← q4] at hf
      obtain ⟨⟨⟨⟨_, f1⟩, f2⟩, f3⟩, f4⟩ := hf
      simp only [q6, Bool.and_eq_true, q7, dtOk, decide_eq_true_eq, k4, k6, k7, numN_ge, k3, b2, hw', f1, f2, f3, f4, q8, true_and, and_true]
      constructor
      · rintro ⟨t, ⟨x, y⟩, z⟩; exact ⟨y, x, t, z⟩
      · rintro ⟨y, x, t, z⟩; exact ⟨t, ⟨x, y⟩, z⟩
    · rw [if_neg hf]
      simp only [f3Ok, Bool.and_eq_true, decide_eq_true_eq, ← q1, ← q2, ← q3, ← q4] at hf
      constructor
      · intro h; cases h
      · rintro ⟨_, c2, _, c4, _, c6, _, c8, _⟩
        exact absurd ⟨⟨⟨⟨hl, c2⟩, c4⟩, c6⟩, c8⟩ hf
  refine ⟨key, fun hC => ?_⟩
  have hok := key.2 hC
  obtain ⟨h0, -, -, -, h4, -, h6, -, h8, -⟩ := hC
  have hw : ¬ wkI s < 0 := by rw [k1]; exact h0
  unfold form3 at hok ⊢
  rw [if_neg hw] at hok ⊢
  by_cases hf : f3Ok s = true
  · rw [if_pos hf] at hok ⊢
    simp only at hok
    rw [hok, q6, tiD_of (by rw [List.length_drop]; omega) h6]
    simp only [k5 h4, k6, k7, numN_of h8.2, k2, v3, dd]
  · rw [if_neg hf] at hok; cases hok
theorem day_at {w : List UInt8} (hw : w ∈ hdDays) (t : List UInt8) : wHit hdDays (w ++ 44 :: t) = true ∧ wdS hdDays (w ++ 44 :: t) = 44 :: t ∧ wdN hdDays (w ++ 44 :: t) = ixN hdDays w ∧ cmI (w ++ 44 :: t) = w.length := by
  have h : ∃ k : Nat, k < 7 ∧ w = hdDays.getD k [] := by
    obtain ⟨k, hk, e⟩ := List.getElem_of_mem hw
    exact ⟨k, hk, by rw [← e, List.getD_eq_getElem?_getD, List.getElem?_eq_getElem hk]; rfl⟩
  obtain ⟨k, hk, rfl⟩ := h
  have hh : wHit hdDays (hdDays.getD k [] ++ 44 :: t) = true ∧ wIx hdDays (hdDays.getD k [] ++ 44 :: t) = k := by
    apply word_hit (show k < hdDays.length from hk)
    · have : k = 0 ∨ k = 1 ∨ k = 2 ∨ k = 3 ∨ k = 4 ∨ k = 5 ∨ k = 6 := by omega
      rcases this with rfl | rfl | rfl | rfl | rfl | rfl | rfl <;> rfl
    · have : (hdDays.getD k []).isPrefixOf (hdDays.getD k [] ++ 44 :: t) = true := by rw [List.isPrefixOf_iff_prefix]; exact List.prefix_append _ _
      exact this
  refine ⟨hh.1, ?_, ?_, ?_⟩
  · rw [wdS, if_pos hh.1, hh.2, List.drop_left]
  · rw [wdN, if_pos hh.1, hh.2]
    have : k = 0 ∨ k = 1 ∨ k = 2 ∨ k = 3 ∨ k = 4 ∨ k = 5 ∨ k = 6 := by omega
    rcases this with rfl | rfl | rfl | rfl | rfl | rfl | rfl <;> decide
  · have : k = 0 ∨ k = 1 ∨ k = 2 ∨ k = 3 ∨ k = 4 ∨ k = 5 ∨ k = 6 := by omega
    rcases this with rfl | rfl | rfl | rfl | rfl | rfl | rfl <;> rfl
theorem hit_split {l : List (List UInt8)} {s : List UInt8} (h : wHit l s = true) : ∃ w ∈ l, s = w ++ wdS l s := by
  have h1 : wIx l s < l.length := by
    unfold wIx; rw [List.findIdx_lt_length]
    unfold wHit at h; rw [List.any_eq_true] at h; exact h
  have h2 : Lib.hasPrefix s (l.getD (wIx l s) []) = true := by
    have := List.findIdx_getElem (w := h1)
    rw [List.getD_eq_getElem?_getD, List.getElem?_eq_getElem h1]
    exact this
  refine ⟨l.getD (wIx l s) [], ?_, ?_⟩
  · rw [List.getD_eq_getElem?_getD, List.getElem?_eq_getElem h1]; exact List.getElem_mem h1
  · rw [wdS, if_pos h]
    have h3 : (l.getD (wIx l s) []) <+: s := List.isPrefixOf_iff_prefix.1 h2
    rw [List.prefix_iff_eq_append] at h3
    exact h3.symm
theorem head44 {r : List UInt8} (h : r.take 1 = [44]) : ∃ t, r = 44 :: t := by
  rcases r with _ | ⟨a, t⟩
  · simp at h
  · simp at h; exact ⟨t, by rw [h]⟩
theorem form2_ok (ty : Int) (s : List UInt8) : ((form2 ty s).ok = true ↔ C2 s) ∧ (C2 s → form2 ty s = ⟨⟨nearI (v2 s).y ty, (v2 s).mo, (v2 s).d, (v2 s).h, (v2 s).mi, (v2 s).se⟩, (v2 s).week, true⟩) := by
  by_cases hs : ∃ w ∈ hdDays, ∃ t, s = w ++ 44 :: t
  rotate_left
  · have n1 : (form2 ty s).ok = false := by
      have : ¬ f2Ok (s.take (cmI s)) (s.drop (cmI s)) = true := by
        intro hf
        simp only [f2Ok, Bool.and_eq_true, decide_eq_true_eq, ixN_ge, take_two] at hf
        obtain ⟨⟨⟨⟨⟨⟨f0, f1⟩, f2, f3⟩, f4⟩, f5⟩, f6⟩, f7⟩ := hf
        obtain ⟨t, e⟩ := head44 f2
        exact hs ⟨_, f0, t, by rw [← e, List.take_append_drop]⟩
      simp only [form2, if_neg this]
    have n2 : ¬ C2 s := by
      rintro ⟨h0, h1, -⟩
      obtain ⟨w, hw, e⟩ := hit_split h0
      obtain ⟨t, e2⟩ := head44 h1
      exact hs ⟨w, hw, t, by rw [← e2]; exact e⟩
    exact ⟨by simp [n1, n2], fun h => absurd h n2⟩
  obtain ⟨w, hw, t, rfl⟩ := hs
  obtain ⟨d1, d2, d3, d4⟩ := day_at hw t
  have e1 : (w ++ 44 :: t).take (cmI (w ++ 44 :: t)) = w := by rw [d4, List.take_left]
  have e2 : (w ++ 44 :: t).drop (cmI (w ++ 44 :: t)) = 44 :: t := by rw [d4, List.drop_left]
  unfold form2 C2 v2
  simp only [e1, e2, d1, d2, d3]
  generalize 44 :: t = r
  by_cases hl : r.length = 24
  rotate_left
  · have n1 : ¬ f2Ok w r = true := by simp [f2Ok, hl]
    rw [if_neg n1]
    have n2 : ¬ (r.drop 21).take 3 = [71, 77, 84] ∨ ¬ r.drop 24 = [] := by
      by_cases h2 : r.drop 24 = []
      · left; intro h1
        have := congrArg List.length h1
        have := congrArg List.length h2
        simp at *
        omega
      · exact Or.inr h2
    constructor
    · constructor
      · intro h; cases h
      · rintro ⟨-, -, -, -, -, -, -, -, -, -, -, h1, h2⟩; exact (n2.elim (fun h => h h1) (fun h => h h2)).elim
    · rintro ⟨-, -, -, -, -, -, -, -, -, -, -, h1, h2⟩; exact (n2.elim (fun h => h h1) (fun h => h h2)).elim
  have q1 := take1_getD (s := r) (k := 4) (by omega) 45
  have q2 := take1_getD (s := r) (k := 8) (by omega) 45
  have q3 := take1_getD (s := r) (k := 11) (by omega) 32
  have q5 : (r.drop 20 = [32, 71, 77, 84]) = ((r.drop 20).take 1 = [32] ∧ (r.drop 21).take 3 = [71, 77, 84]) := by
    rw [gmt_tail (by rw [List.length_drop]; omega), dd]
  have q6 : (r.take 20).drop 12 = (r.drop 12).take 8 := by rw [drop_take']
  have q7 : (tiB ((r.drop 12).take 8) = true) = tOK (r.drop 12) := tiB_iff (by rw [List.length_drop]; omega)
  have q8 : r.drop 24 = [] := by rw [List.drop_eq_nil_iff]; omega
  have a1 : (r.take 4).drop 2 = (r.drop 2).take 2 := by rw [drop_take']
  have a2 : (r.take 8).drop 5 = (r.drop 5).take 3 := by rw [drop_take']
  have a3 : (r.take 11).drop 9 = (r.drop 9).take 2 := by rw [drop_take']
  have b1 := nOK_of (w := 2) (x := (r.drop 2).take 2) (by rw [List.length_take, List.length_drop]; omega)
  have b2 := nOK_of (w := 2) (x := (r.drop 9).take 2) (by rw [List.length_take, List.length_drop]; omega)
  have k3 : (1 ≤ ixN hdMonths ((r.drop 5).take 3) + 1) = ((r.drop 5).take 3 ∈ hdMonths) := by rw [← ixN_ge]; simp only [eq_iff_iff]; omega
  by_cases hf : f2Ok w r = true
  · rw [if_pos hf]
    simp only [f2Ok, Bool.and_eq_true, decide_eq_true_eq, take_two, ← q1, ← q2, ← q3, q5] at hf
    obtain ⟨⟨⟨⟨⟨⟨_, _⟩, f1, f2⟩, f3⟩, f4⟩, f5⟩, f6, f7⟩ := hf
    have hd : (dtOk (f2D r) = true) = (nOK 2 ((r.drop 2).take 2) ∧ (r.drop 5).take 3 ∈ hdMonths ∧ nOK 2 ((r.drop 9).take 2)) := by
      simp only [dtOk, f2D, Bool.and_eq_true, decide_eq_true_eq, a1, a2, a3, numN_ge, k3, b1, b2, and_assoc]
    by_cases hk : dtOk (f2D r) = true
    · rw [if_pos hk]
      rw [hd] at hk
      obtain ⟨g1, g2, g3⟩ := hk
      simp only [q6, q7, g1, g2, g3, f1, f2, f3, f4, f5, f6, f7, q8, true_and, and_true]
      intro ht
      have hb : tiB ((r.drop 12).take 8) = true := by rw [q7]; exact ht
      rw [hb, tiD_of (by rw [List.length_drop]; omega) ht]
      simp only [f2D, dt0, a1, a2, a3, numN_of g1.2, numN_of g3.2, dd]
    · rw [if_neg hk]
      rw [hd] at hk
      constructor
      · constructor
        · intro h; cases h
        · rintro ⟨-, -, -, h3, -, h5, -, h7, -⟩; exact absurd ⟨h3, h5, h7⟩ hk
      · rintro ⟨-, -, -, h3, -, h5, -, h7, -⟩; exact absurd ⟨h3, h5, h7⟩ hk
  · rw [if_neg hf]
    simp only [f2Ok, Bool.and_eq_true, decide_eq_true_eq, take_two, ← q1, ← q2, ← q3, q5, ixN_ge] at hf
    constructor
    · constructor
      · intro h; cases h
      · rintro ⟨-, c1, c2, -, c4, -, c6, -, c8, -, c10, c11, -⟩
        exact absurd ⟨⟨⟨⟨⟨⟨hw, hl⟩, c1, c2⟩, c4⟩, c6⟩, c8⟩, c10, c11⟩ hf
    · rintro ⟨-, c1, c2, -, c4, -, c6, -, c8, -, c10, c11, -⟩
      exact absurd ⟨⟨⟨⟨⟨⟨hw, hl⟩, c1, c2⟩, c4⟩, c6⟩, c8⟩, c10, c11⟩ hf
end Go.Mdl
end
section
set_option linter.unusedVariables false
set_option linter.unusedSimpArgs false
namespace Go.Mdl
open Go Go.Abs
def clkS (d : Dt) : List UInt8 := padS d.h 2 ++ [58] ++ padS d.mi 2 ++ [58] ++ padS d.se 2
def pieceS (d : Dt) (w : Int) (c : UInt8) : List UInt8 :=
  if c = 119 then (hdDays.getD w.toNat []).take 3
  else if c = 100 then padS d.d 2
  else if c = 109 then hdMonths.getD (d.mo - 1).toNat []
  else if c = 121 then padS d.y 4
  else if c = 116 then clkS d
  else if c = 122 then [71, 77, 84]
  else [c]
def fixS (d : Dt) (w : Int) (pat : List UInt8) : List UInt8 := (pat.map (pieceS d w)).flatten
def writeS (d : Dt) (w form : Int) : List UInt8 :=
  if form = 1 then (hdDays.getD w.toNat []).take 3 ++ [44, 32] ++ padS d.d 2 ++ [32] ++ hdMonths.getD (d.mo - 1).toNat [] ++ [32] ++ padS d.y 4 ++ [32] ++ clkS d ++ [32, 71, 77, 84]
  else if form = 2 then hdDays.getD w.toNat [] ++ [44, 32] ++ padS d.d 2 ++ [45] ++ hdMonths.getD (d.mo - 1).toNat [] ++ [45] ++ padS (d.y % 100) 2 ++ [32] ++ clkS d ++ [32, 71, 77, 84]
  else (hdDays.getD w.toNat []).take 3 ++ [32] ++ hdMonths.getD (d.mo - 1).toNat [] ++ [32] ++ (if d.d < 10 then 32 :: padS d.d 1 else padS d.d 1) ++ [32] ++ clkS d ++ [32] ++ padS d.y 4
theorem fix_write (d : Dt) (w : Int) : fixS d w hdPat1 = writeS d w 1 := by
  simp [fixS, writeS, hdPat1, pieceS]
theorem day_cases {k : Nat} (h : k < 7) : hdDays.getD k [] ∈ hdDays ∧ (hdDays.getD k []).take 3 ∈ hdDays3 ∧ ((hdDays.getD k []).take 3).length = 3 ∧ ixN hdDays (hdDays.getD k []) = k ∧ ixN hdDays3 ((hdDays.getD k []).take 3) = k ∧ 5 ≤ (hdDays.getD k []).length ∧ (hdDays.getD k []).getD 3 0 ≠ 44 ∧ (hdDays.getD k []).getD 3 0 ≠ 32 := by
  have : k = 0 ∨ k = 1 ∨ k = 2 ∨ k = 3 ∨ k = 4 ∨ k = 5 ∨ k = 6 := by omega
  rcases this with rfl | rfl | rfl | rfl | rfl | rfl | rfl <;> decide
theorem month_cases {k : Nat} (h : k < 12) : hdMonths.getD k [] ∈ hdMonths ∧ (hdMonths.getD k []).length = 3 ∧ ixN hdMonths (hdMonths.getD k []) = k := by
  have : k = 0 ∨ k = 1 ∨ k = 2 ∨ k = 3 ∨ k = 4 ∨ k = 5 ∨ k = 6 ∨ k = 7 ∨ k = 8 ∨ k = 9 ∨ k = 10 ∨ k = 11 := by omega
  rcases this with rfl | rfl | rfl | rfl | rfl | rfl | rfl | rfl | rfl | rfl | rfl | rfl <;> decide
def dtIn (d : Dt) (w : Int) : Prop := (0 ≤ w ∧ w < 7) ∧ (1 ≤ d.y ∧ d.y ≤ 9999) ∧ (1 ≤ d.mo ∧ d.mo ≤ 12) ∧ (1 ≤ d.d ∧ d.d ≤ 31) ∧ (0 ≤ d.h ∧ d.h < 24) ∧ (0 ≤ d.mi ∧ d.mi < 60) ∧ (0 ≤ d.se ∧ d.se < 60)
end Go.Mdl
end
section
set_option linter.unusedVariables false
set_option linter.unusedSimpArgs false
namespace Go.Proofs.Tryz.Cur
open Go Go.Abs Go.Proofs Go.Mdl
def T_specNew : Tbl := fun g E args => nilT g E args
theorem T_specNew_ok : TblOK Tryz.prog T_specNew := nilT_ok
set_option maxRecDepth 100000 in
set_option maxHeartbeats 4000000 in
theorem specNew (s : List UInt8) : SpecE Tryz.prog 38 [] [.str s] [.cells 2 false (.agg [.str [], .int .i64 0]) [.agg [.str s, .int .i64 0]]] (.ptr 0 0 0 1) := by
  refine specFE (C := T_specNew) (wr := false) (D := fun _ => []) (U := fun _ => none) (E := []) (E' := [.cells 2 false (.agg [.str [], .int .i64 0]) [.agg [.str s, .int .i64 0]]]) (res := [.ptr 0 0 0 1]) [96] Tryz.Ty.mixed T_specNew_ok Tryz.func38 (args := [.str s]) (nE := 0) (nA := 1) (by decide +kernel) rfl rfl ?_
  simp only [Tryz.f38, bodyOf, rlOf]
  rw [W_V]
  simp (config := {maxSteps := 2000000}) only [T_specNew, go_sem, seval]
  (try simp (config := {maxSteps := 2000000}) only [gimp, impB, isT, go_sem, seval])
def tb_specNew : List Blk → List AV → Option (List Blk × AV × Prop)
  | [], [.str s] => some ([.cells 2 false (.agg [.str [], .int .i64 0]) [.agg [.str s, .int .i64 0]]], .ptr 0 0 0 1, True)
  | _, _ => none
theorem tb_specNew_ok : ∀ E args E' res p, tb_specNew E args = some (E', res, p) → p → SpecE Tryz.prog 38 E args E' res := by
  intro E args E' res p h hp
  unfold tb_specNew at h
  split at h
  · simp only [Option.some.injEq, Prod.mk.injEq] at h
    obtain ⟨rfl, rfl, rfl⟩ := h
    exact (specNew _)
  · cases h
def T_specLeft : Tbl := fun g E args => nilT g E args
theorem T_specLeft_ok : TblOK Tryz.prog T_specLeft := nilT_ok
set_option maxRecDepth 100000 in
set_option maxHeartbeats 4000000 in
theorem specLeft (s : List UInt8) (a : Int) (h : 0 ≤ a ∧ a ≤ s.length) : SpecE Tryz.prog 41 [.cells 2 false (.agg [.str [], .int .i64 0]) [.agg [.str s, .int .i64 a]]] [.ptr 0 0 0 1] [.cells 2 false (.agg [.str [], .int .i64 0]) [.agg [.str s, .int .i64 a]]] (.str (s.drop a.toNat)) := by
  refine specFE (C := T_specLeft) (wr := false) (D := fun _ => []) (U := fun _ => none) (E := [.cells 2 false (.agg [.str [], .int .i64 0]) [.agg [.str s, .int .i64 a]]]) (E' := [.cells 2 false (.agg [.str [], .int .i64 0]) [.agg [.str s, .int .i64 a]]]) (res := [.str (s.drop a.toNat)]) [] Tryz.Ty.mixed T_specLeft_ok Tryz.func41 (args := [.ptr 0 0 0 1]) (nE := 1) (nA := 1) (by decide +kernel) rfl rfl ?_
  simp only [Tryz.f41, bodyOf, rlOf]
  rw [W_V]
  simp (config := {maxSteps := 2000000}) only [T_specLeft, go_sem, seval]
  (try simp (config := {maxSteps := 2000000}) only [gimp, impB, isT, go_sem, seval])
  exact h
def tb_specLeft : List Blk → List AV → Option (List Blk × AV × Prop)
  | [.cells 2 false d [.agg [.str s, .int .i64 a]]], [.ptr 0 0 0 1] => some ([.cells 2 false (.agg [.str [], .int .i64 0]) [.agg [.str s, .int .i64 a]]], .str (s.drop a.toNat), (d = .agg [.str [], .int .i64 0]) ∧ (0 ≤ a ∧ a ≤ s.length))
  | _, _ => none
theorem tb_specLeft_ok : ∀ E args E' res p, tb_specLeft E args = some (E', res, p) → p → SpecE Tryz.prog 41 E args E' res := by
  intro E args E' res p h hp
  unfold tb_specLeft at h
  split at h
  · simp only [Option.some.injEq, Prod.mk.injEq] at h
    obtain ⟨rfl, rfl, rfl⟩ := h
    obtain ⟨rfl, hp⟩ := hp
    exact (specLeft _ _ hp)
  · cases h
def T_specTake : Tbl := fun g E args => (addT nilT 41 Go.Proofs.Tryz.Cur.tb_specLeft) g E args
theorem T_specTake_ok : TblOK Tryz.prog T_specTake := (addT_ok nilT_ok (by decide +kernel) Go.Proofs.Tryz.Cur.tb_specLeft_ok)
set_option maxRecDepth 100000 in
set_option maxHeartbeats 4000000 in
theorem specTake (s : List UInt8) (a n : Int) (h : 0 ≤ a ∧ 0 ≤ n ∧ a + n ≤ s.length ∧ s.length ≤ 1000000) : SpecE Tryz.prog 75 [.cells 2 false (.agg [.str [], .int .i64 0]) [.agg [.str s, .int .i64 a]]] [.ptr 0 0 0 1, .int .i64 n] [.cells 2 false (.agg [.str [], .int .i64 0]) [.agg [.str s, .int .i64 (a + n)]]] (.str ((s.drop a.toNat).take n.toNat)) := by
  refine specFE (C := T_specTake) (wr := false) (D := fun _ => []) (U := fun _ => none) (E := [.cells 2 false (.agg [.str [], .int .i64 0]) [.agg [.str s, .int .i64 a]]]) (E' := [.cells 2 false (.agg [.str [], .int .i64 0]) [.agg [.str s, .int .i64 (a + n)]]]) (res := [.str ((s.drop a.toNat).take n.toNat)]) [] Tryz.Ty.mixed T_specTake_ok Tryz.func75 (args := [.ptr 0 0 0 1, .int .i64 n]) (nE := 1) (nA := 2) (by decide +kernel) rfl rfl ?_
  simp only [Tryz.f75, bodyOf, rlOf]
  rw [W_V]
  simp (config := {maxSteps := 2000000}) only [T_specTake, Go.Proofs.Tryz.Cur.tb_specLeft, go_sem, seval]
  (try simp (config := {maxSteps := 2000000}) only [gimp, impB, isT, go_sem, seval])
  obtain ⟨h1, h2, h3, h4⟩ := h
  refine ⟨by omega, ⟨h2, by simp; omega⟩, fun hp => by omega, fun hn => ?_⟩
  have : n = 0 := by omega
  subst this
  simp
def tb_specTake : List Blk → List AV → Option (List Blk × AV × Prop)
  | [.cells 2 false d [.agg [.str s, .int .i64 a]]], [.ptr 0 0 0 1, .int .i64 n] => some ([.cells 2 false (.agg [.str [], .int .i64 0]) [.agg [.str s, .int .i64 (a + n)]]], .str ((s.drop a.toNat).take n.toNat), (d = .agg [.str [], .int .i64 0]) ∧ (0 ≤ a ∧ 0 ≤ n ∧ a + n ≤ s.length ∧ s.length ≤ 1000000))
  | _, _ => none
theorem tb_specTake_ok : ∀ E args E' res p, tb_specTake E args = some (E', res, p) → p → SpecE Tryz.prog 75 E args E' res := by
  intro E args E' res p h hp
  unfold tb_specTake at h
  split at h
  · simp only [Option.some.injEq, Prod.mk.injEq] at h
    obtain ⟨rfl, rfl, rfl⟩ := h
    obtain ⟨rfl, hp⟩ := hp
    exact (specTake _ _ _ hp)
  · cases h
theorem head_iff {t : List UInt8} {b : UInt8} : t.head? = some b ↔ t ≠ [] ∧ t.getD 0 0 = b := by
  cases t <;> simp
def T_specByte : Tbl := fun g E args => (addT (addT nilT 41 Go.Proofs.Tryz.Cur.tb_specLeft) 75 Go.Proofs.Tryz.Cur.tb_specTake) g E args
theorem T_specByte_ok : TblOK Tryz.prog T_specByte := (addT_ok (addT_ok nilT_ok (by decide +kernel) Go.Proofs.Tryz.Cur.tb_specLeft_ok) (by decide +kernel) Go.Proofs.Tryz.Cur.tb_specTake_ok)
set_option maxRecDepth 100000 in
set_option maxHeartbeats 4000000 in
theorem specByte (s : List UInt8) (a : Int) (b : UInt8) (h : 0 ≤ a ∧ a ≤ s.length ∧ s.length ≤ 1000000) : SpecE Tryz.prog 114 [.cells 2 false (.agg [.str [], .int .i64 0]) [.agg [.str s, .int .i64 a]]] [.ptr 0 0 0 1, enc_u8 b] [.cells 2 false (.agg [.str [], .int .i64 0]) [.agg [.str s, .int .i64 (if (s.drop a.toNat).head? = some b then a + 1 else a)]]] (.bool (decide ((s.drop a.toNat).head? = some b))) := by
  refine specFE (C := T_specByte) (wr := false) (D := fun _ => []) (U := fun _ => none) (E := [.cells 2 false (.agg [.str [], .int .i64 0]) [.agg [.str s, .int .i64 a]]]) (E' := [.cells 2 false (.agg [.str [], .int .i64 0]) [.agg [.str s, .int .i64 (if (s.drop a.toNat).head? = some b then a + 1 else a)]]]) (res := [.bool (decide ((s.drop a.toNat).head? = some b))]) [] Tryz.Ty.mixed T_specByte_ok Tryz.func114 (args := [.ptr 0 0 0 1, enc_u8 b]) (nE := 1) (nA := 2) (by decide +kernel) rfl rfl ?_
  simp only [Tryz.f114, bodyOf, rlOf]
  rw [W_V]
  simp (config := {maxSteps := 2000000}) only [T_specByte, Go.Proofs.Tryz.Cur.tb_specLeft, Go.Proofs.Tryz.Cur.tb_specTake, go_sem, seval]
  (try simp (config := {maxSteps := 2000000}) only [gimp, impB, isT, go_sem, seval])
  simp only [head_iff]
  have hl : (s.drop a.toNat).length = s.length - a.toNat := by simp
  have hpos : s.drop a.toNat ≠ [] → 0 < (s.drop a.toNat).length := List.length_pos_iff.2
  refine ⟨by omega, fun hn => by have := hpos hn; omega, fun hn => ?_, fun hn he => ?_⟩
  · have hno : ¬ (s.drop a.toNat ≠ [] ∧ (s.drop a.toNat).getD 0 0 = b) := by
      rintro ⟨h1, h2⟩
      rcases hn with h | h
      · exact h1 h
      · exact h h2
    simp only [if_neg hno, decide_eq_false hno, and_self]
  · have hyes : s.drop a.toNat ≠ [] ∧ (s.drop a.toNat).getD 0 0 = b := ⟨hn, by simpa using he⟩
    have := hpos hn
    simp only [if_pos hyes, decide_eq_true hyes, and_self, and_true]
    omega
def tb_specByte : List Blk → List AV → Option (List Blk × AV × Prop)
  | [.cells 2 false d [.agg [.str s, .int .i64 a]]], [.ptr 0 0 0 1, a1] => some ([.cells 2 false (.agg [.str [], .int .i64 0]) [.agg [.str s, .int .i64 (if (s.drop a.toNat).head? = some (dec_u8 a1) then a + 1 else a)]]], .bool (decide ((s.drop a.toNat).head? = some (dec_u8 a1))), (d = .agg [.str [], .int .i64 0]) ∧ (0 ≤ a ∧ a ≤ s.length ∧ s.length ≤ 1000000) ∧ argOK a1 (enc_u8 (dec_u8 a1)))
  | _, _ => none
theorem tb_specByte_ok : ∀ E args E' res p, tb_specByte E args = some (E', res, p) → p → SpecE Tryz.prog 114 E args E' res := by
  intro E args E' res p h hp
  unfold tb_specByte at h
  split at h
  · simp only [Option.some.injEq, Prod.mk.injEq] at h
    obtain ⟨rfl, rfl, rfl⟩ := h
    obtain ⟨rfl, hp⟩ := hp
    exact SpecE.args (specByte _ _ _ hp.1) (.cons (argOK.refl _) (.cons hp.2 .nil))
  · cases h
theorem spec_span {f : FuncId} (hy : ¬ f = 1000000) {p : UInt8 → Bool} (hs : ∀ c : UInt8, SpecE Tryz.prog f [] [enc_u8 c] [] (.bool (p c))) (s : List UInt8) (a : Int) (h : 0 ≤ a ∧ a ≤ s.length ∧ s.length ≤ 1000000) :
    SpecE Tryz.prog 76 [.cells 2 false (.agg [.str [], .int .i64 0]) [.agg [.str s, .int .i64 a]]] [.ptr 0 0 0 1, .clo f 0 []] [.cells 2 false (.agg [.str [], .int .i64 0]) [.agg [.str s, .int .i64 a]]] (.int .i64 (spanL p (s.drop a.toNat))) := by
  have htb : TblOK Tryz.prog (addT (addT nilT f (tbU8 p)) 41 tb_specLeft) := addT_ok (addT_ok nilT_ok (by simp) (tbU8_ok hs)) (by decide +kernel) tb_specLeft_ok
  refine specFE (C := addT (addT nilT f (tbU8 p)) 41 tb_specLeft) (wr := false) (D := fun _ => []) (U := fun _ => none) (E := [.cells 2 false (.agg [.str [], .int .i64 0]) [.agg [.str s, .int .i64 a]]])
    (E' := [.cells 2 false (.agg [.str [], .int .i64 0]) [.agg [.str s, .int .i64 a]]]) (res := [.int .i64 (spanL p (s.drop a.toNat))]) [] Tryz.Ty.mixed htb Tryz.func76 (nE := 1) (nA := 2) (by decide +kernel) rfl rfl ?_
  simp only [Tryz.f76, bodyOf, rlOf]
  rw [W_V]
  simp only [tb_specLeft, hy, go_sem, go_sem, seval, Tryz.underlying9, Tryz.underlying58]
  refine ⟨by omega, ?_⟩
  generalize ht : s.drop a.toNat = t
  have hl : t.length ≤ 1000000 := by rw [← ht]; simp; omega
  refine VL_inv (X := Nat) (fun x => ⟨[(1, .clo f 0 []), (5, .str t), (6, .int .i64 x)], [(0, .cells 2 false (.agg [.str [], .int .i64 0]) [.agg [.str s, .int .i64 a]])]⟩) (fun x => x ≤ t.length ∧ (t.take x).all p = true) (fun x => t.length - x) 0 ?_ ?_ ?_
  · simp only [go_sem, go_sem, seval]
  · exact ⟨Nat.zero_le _, by simp⟩
  rintro x ⟨hx, hn⟩
  simp only [tb_specLeft, hy, go_sem, go_sem, seval, Tryz.underlying9, Tryz.underlying58]
  refine ⟨⟨fun h => by omega, fun h => by simpa using h⟩, fun hlt hp => ⟨by omega, x + 1, by omega, ⟨by omega, (all_step (by omega) hn).1 hp⟩, by omega⟩, fun hf => ?_⟩
  rw [← span_exit hx hn (fun hlt => ?_)]
  simpa [hlt] using hf
set_option maxRecDepth 100000 in
set_option maxHeartbeats 4000000 in
theorem specSpanT (s : List UInt8) (a : Int) (h : 0 ≤ a ∧ a ≤ s.length ∧ s.length ≤ 1000000) : SpecE Tryz.prog 76 [.cells 2 false (.agg [.str [], .int .i64 0]) [.agg [.str s, .int .i64 a]]] [.ptr 0 0 0 1, .clo 207 0 []] [.cells 2 false (.agg [.str [], .int .i64 0]) [.agg [.str s, .int .i64 a]]] (.int .i64 (spanL tcharB (s.drop a.toNat))) := by
  exact spec_span (by decide) Oct.specTcharX s a h
def tb_specSpanT : List Blk → List AV → Option (List Blk × AV × Prop)
  | [.cells 2 false d [.agg [.str s, .int .i64 a]]], [.ptr 0 0 0 1, .clo 207 0 []] => some ([.cells 2 false (.agg [.str [], .int .i64 0]) [.agg [.str s, .int .i64 a]]], .int .i64 (spanL tcharB (s.drop a.toNat)), (d = .agg [.str [], .int .i64 0]) ∧ (0 ≤ a ∧ a ≤ s.length ∧ s.length ≤ 1000000))
  | _, _ => none
theorem tb_specSpanT_ok : ∀ E args E' res p, tb_specSpanT E args = some (E', res, p) → p → SpecE Tryz.prog 76 E args E' res := by
  intro E args E' res p h hp
  unfold tb_specSpanT at h
  split at h
  · simp only [Option.some.injEq, Prod.mk.injEq] at h
    obtain ⟨rfl, rfl, rfl⟩ := h
    obtain ⟨rfl, hp⟩ := hp
    exact (specSpanT _ _ hp)
  · cases h
def T_specToken : Tbl := fun g E args => (addT (addT nilT 76 Go.Proofs.Tryz.Cur.tb_specSpanT) 75 Go.Proofs.Tryz.Cur.tb_specTake) g E args
theorem T_specToken_ok : TblOK Tryz.prog T_specToken := (addT_ok (addT_ok nilT_ok (by decide +kernel) Go.Proofs.Tryz.Cur.tb_specSpanT_ok) (by decide +kernel) Go.Proofs.Tryz.Cur.tb_specTake_ok)
set_option maxRecDepth 100000 in
set_option maxHeartbeats 4000000 in
theorem specToken (s : List UInt8) (a : Int) (h : 0 ≤ a ∧ a ≤ s.length ∧ s.length ≤ 1000000) : SpecE Tryz.prog 189 [.cells 2 false (.agg [.str [], .int .i64 0]) [.agg [.str s, .int .i64 a]]] [.ptr 0 0 0 1] [.cells 2 false (.agg [.str [], .int .i64 0]) [.agg [.str s, .int .i64 (a + spanL tcharB (s.drop a.toNat))]]] (.str ((s.drop a.toNat).take (spanL tcharB (s.drop a.toNat)))) := by
  refine specFE (C := T_specToken) (wr := false) (D := fun _ => []) (U := fun _ => none) (E := [.cells 2 false (.agg [.str [], .int .i64 0]) [.agg [.str s, .int .i64 a]]]) (E' := [.cells 2 false (.agg [.str [], .int .i64 0]) [.agg [.str s, .int .i64 (a + spanL tcharB (s.drop a.toNat))]]]) (res := [.str ((s.drop a.toNat).take (spanL tcharB (s.drop a.toNat)))]) [] Tryz.Ty.mixed T_specToken_ok Tryz.func189 (args := [.ptr 0 0 0 1]) (nE := 1) (nA := 1) (by decide +kernel) rfl rfl ?_
  simp only [Tryz.f189, bodyOf, rlOf]
  rw [W_V]
  simp (config := {maxSteps := 2000000}) only [T_specToken, Go.Proofs.Tryz.Cur.tb_specSpanT, Go.Proofs.Tryz.Cur.tb_specTake, go_sem, seval]
  (try simp (config := {maxSteps := 2000000}) only [gimp, impB, isT, go_sem, seval])
  have hl : (s.drop a.toNat).length = s.length - a.toNat := by simp
  have hk := spanL_le tcharB (s.drop a.toNat)
  exact ⟨h, by omega⟩
def tb_specToken : List Blk → List AV → Option (List Blk × AV × Prop)
  | [.cells 2 false d [.agg [.str s, .int .i64 a]]], [.ptr 0 0 0 1] => some ([.cells 2 false (.agg [.str [], .int .i64 0]) [.agg [.str s, .int .i64 (a + spanL tcharB (s.drop a.toNat))]]], .str ((s.drop a.toNat).take (spanL tcharB (s.drop a.toNat))), (d = .agg [.str [], .int .i64 0]) ∧ (0 ≤ a ∧ a ≤ s.length ∧ s.length ≤ 1000000))
  | _, _ => none
theorem tb_specToken_ok : ∀ E args E' res p, tb_specToken E args = some (E', res, p) → p → SpecE Tryz.prog 189 E args E' res := by
  intro E args E' res p h hp
  unfold tb_specToken at h
  split at h
  · simp only [Option.some.injEq, Prod.mk.injEq] at h
    obtain ⟨rfl, rfl, rfl⟩ := h
    obtain ⟨rfl, hp⟩ := hp
    exact (specToken _ _ hp)
  · cases h
end Go.Proofs.Tryz.Cur
end
section
set_option linter.unusedVariables false
set_option linter.unusedSimpArgs false
namespace Go.Proofs.Tryz.Cur
open Go Go.Abs Go.Proofs Go.Mdl
def T_specQuoted : Tbl := fun g E args => (addT (addT (addT nilT 41 Go.Proofs.Tryz.Cur.tb_specLeft) 75 Go.Proofs.Tryz.Cur.tb_specTake) 208 Go.Proofs.Tryz.Oct.tb_specValue) g E args
theorem T_specQuoted_ok : TblOK Tryz.prog T_specQuoted := (addT_ok (addT_ok (addT_ok nilT_ok (by decide +kernel) Go.Proofs.Tryz.Cur.tb_specLeft_ok) (by decide +kernel) Go.Proofs.Tryz.Cur.tb_specTake_ok) (by decide +kernel) Go.Proofs.Tryz.Oct.tb_specValue_ok)
set_option maxRecDepth 100000 in
set_option maxHeartbeats 4000000 in
theorem specQuoted (s : List UInt8) (a : Int) (h : 0 ≤ a ∧ a ≤ s.length ∧ s.length ≤ 1000000) : SpecE Tryz.prog 190 [.cells 2 false (.agg [.str [], .int .i64 0]) [.agg [.str s, .int .i64 a]]] [.ptr 0 0 0 1] [.cells 2 false (.agg [.str [], .int .i64 0]) [.agg [.str s, .int .i64 (a + qLen (s.drop a.toNat))]]] (.tuple [.str (qText (s.drop a.toNat)), .bool (qHas (s.drop a.toNat))]) := by
  refine specFE (C := T_specQuoted) (wr := false) (D := fun _ => []) (U := fun _ => none) (E := [.cells 2 false (.agg [.str [], .int .i64 0]) [.agg [.str s, .int .i64 a]]]) (E' := [.cells 2 false (.agg [.str [], .int .i64 0]) [.agg [.str s, .int .i64 (a + qLen (s.drop a.toNat))]]]) (res := [.str (qText (s.drop a.toNat)), .bool (qHas (s.drop a.toNat))]) [] Tryz.Ty.mixed T_specQuoted_ok Tryz.func190 (args := [.ptr 0 0 0 1]) (nE := 1) (nA := 1) (by decide +kernel) rfl rfl ?_
  simp only [Tryz.f190, bodyOf, rlOf]
  rw [W_V]
  simp (config := {maxSteps := 2000000}) only [T_specQuoted, Go.Proofs.Tryz.Cur.tb_specLeft, Go.Proofs.Tryz.Cur.tb_specTake, Go.Proofs.Tryz.Oct.tb_specValue, go_sem, seval]
  (try simp (config := {maxSteps := 2000000}) only [gimp, impB, isT, go_sem, seval])
  have hl : (s.drop a.toNat).length = s.length - a.toNat := by simp
  generalize s.drop a.toNat = t at *
  refine ⟨by omega, fun hn => List.length_pos_iff.2 hn |> fun h => by omega, fun hno => ?_, fun hne hq => ?_⟩
  · obtain ⟨e1, e2, e3⟩ := q_none (qTop_no hno)
    simp [e1, e2, e3]
  have hne' : 1 ≤ t.length := List.length_pos_iff.2 hne
  refine VL_inv (X := List UInt8 × Nat) (fun x => ⟨[(0, .ptr 0 0 0 1), (4, .str t), (5, .ref 992 0 x.1.length x.1.length), (6, .int .i64 x.2)], [(0, .cells 2 false (.agg [.str [], .int .i64 0]) [.agg [.str s, .int .i64 a]]), (992, .cells 1 false (.int .u8 0) (x.1.map byteAV))]⟩)
    (fun x => x.2 ≤ t.length ∧ x.1.length ≤ x.2 ∧ qGo (t.drop x.2) x.1 x.2 = qTop t) (fun x => t.length - x.2) ([], 1) ?_ ?_ ?_
  · simp only [go_sem, go_sem, seval]
  · exact ⟨hne', Nat.zero_le _, (qTop_yes hne hq).symm⟩
  rintro ⟨out, i⟩ ⟨h1, h2, h3⟩
  simp only at h1 h2 h3
  simp (config := {maxSteps := 2000000}) only [T_specQuoted, Go.Proofs.Tryz.Cur.tb_specLeft, Go.Proofs.Tryz.Cur.tb_specTake, Go.Proofs.Tryz.Oct.tb_specValue, go_sem, seval]
  (try simp (config := {maxSteps := 2000000}) only [gimp, impB, isT, go_sem, seval])
  have no : qTop t = none → ([] = qText t ∧ false = qHas t) ∧ [AV.agg [AV.str s, AV.int IntKind.i64 a]] = [AV.agg [AV.str s, AV.int IntKind.i64 (a + (qLen t : Int))]] ∧
      some (Blk.cells 2 false (AV.agg [AV.str [], AV.int IntKind.i64 0]) [AV.agg [AV.str s, AV.int IntKind.i64 (a + (qLen t : Int))]]) = some (Blk.cells 2 false (AV.agg [AV.str [], AV.int IntKind.i64 0]) [AV.agg [AV.str s, AV.int IntKind.i64 a]]) := by
    intro hn
    obtain ⟨e1, e2, e3⟩ := q_none hn
    simp [e1, e2, e3]
  have take_all : List.take out.length (List.map byteAV out) = List.map byteAV out := List.take_of_length_le (by simp)
  refine ⟨fun hlt => ⟨by omega, fun hq1 => ?_, fun hnq => ⟨⟨fun _ => by omega, fun _ => by omega⟩, fun hs1 he => ?_, fun hne1 => ⟨fun hs1 => ?_, fun hns => ?_⟩⟩⟩, fun hge => no (by rw [← h3]; exact qGo_end (by omega))⟩
  · rw [qGo_quote (by omega) hq1] at h3
    obtain ⟨e1, e2, e3⟩ := q_some h3.symm
    rw [List.take_length, e1, e2, e3]
    refine ⟨by omega, by omega, ⟨rfl, rfl⟩, ?_⟩
    simp
  · exact no (by rw [← h3]; exact qGo_slash_end (by omega) hs1)
  · have hlt2 : i + 1 < t.length := by
      rw [decide_eq_true hs1, Bool.true_and, decide_eq_false_iff_not] at hne1; omega
    rw [qGo_slash hlt2 hs1] at h3
    rw [valueS_one]
    refine ⟨by omega, by omega, fun hv => no (by rw [← h3, hv]; rfl), fun hv => ⟨by omega, by omega, (out ++ [t.getD (i + 1) 0], i + 2), ⟨⟨by simp, by simp only; omega⟩, by simp [byteAV]⟩, ⟨by simp only; omega, by simp; omega, ?_⟩, by simp only; omega⟩⟩
    rw [← h3, if_pos hv]
  · rw [qGo_plain (by omega) hnq hns] at h3
    rw [valueS_one]
    refine ⟨fun hv => no (by rw [← h3, hv]; rfl), fun hv => ⟨by omega, by omega, (out ++ [t.getD i 0], i + 1), ⟨⟨by simp, by simp only; omega⟩, by simp [byteAV]⟩, ⟨by simp only; omega, by simp; omega, ?_⟩, by simp only; omega⟩⟩
    rw [← h3, if_pos hv]
def tb_specQuoted : List Blk → List AV → Option (List Blk × AV × Prop)
  | [.cells 2 false d [.agg [.str s, .int .i64 a]]], [.ptr 0 0 0 1] => some ([.cells 2 false (.agg [.str [], .int .i64 0]) [.agg [.str s, .int .i64 (a + qLen (s.drop a.toNat))]]], .tuple [.str (qText (s.drop a.toNat)), .bool (qHas (s.drop a.toNat))], (d = .agg [.str [], .int .i64 0]) ∧ (0 ≤ a ∧ a ≤ s.length ∧ s.length ≤ 1000000))
  | _, _ => none
theorem tb_specQuoted_ok : ∀ E args E' res p, tb_specQuoted E args = some (E', res, p) → p → SpecE Tryz.prog 190 E args E' res := by
  intro E args E' res p h hp
  unfold tb_specQuoted at h
  split at h
  · simp only [Option.some.injEq, Prod.mk.injEq] at h
    obtain ⟨rfl, rfl, rfl⟩ := h
    obtain ⟨rfl, hp⟩ := hp
    exact (specQuoted _ _ hp)
  · cases h
def T_specQuotedR : Tbl := fun g E args => (addT nilT 219 Go.Proofs.Tryz.Oct.tb_specValueR) g E args
theorem T_specQuotedR_ok : TblOK Tryz.prog T_specQuotedR := (addT_ok nilT_ok (by decide +kernel) Go.Proofs.Tryz.Oct.tb_specValueR_ok)
set_option maxRecDepth 100000 in
set_option maxHeartbeats 4000000 in
theorem specQuotedR (s : List UInt8) (h : s.length ≤ 1000000) : SpecE Tryz.prog 210 [] [.str s] [] (.tuple [.str (qText s), .int .i64 (qLen s)]) := by
  refine specF0 (C := T_specQuotedR) (wr := false) (D := fun _ => []) (U := fun _ => none) (res := [.str (qText s), .int .i64 (qLen s)]) Tryz.Ty.mixed T_specQuotedR_ok Tryz.func210 (nA := 1) (by decide +kernel) rfl (fun _ => rfl) ?_
  simp only [Tryz.f210, bodyOf, rlOf]
  rw [W_V]
  simp (config := {maxSteps := 2000000}) only [T_specQuotedR, Go.Proofs.Tryz.Oct.tb_specValueR, go_sem, seval]
  (try simp (config := {maxSteps := 2000000}) only [gimp, impB, isT, go_sem, seval])
  refine ⟨fun hn => by omega, fun hno => ?_, fun hne hq => ?_⟩
  · have : s = [] ∨ ¬ s.getD 0 0 = 34 := by
      rcases hno with h | h
      · exact .inl (List.length_eq_zero_iff.1 (by omega))
      · exact .inr h
    obtain ⟨e1, e2, e3⟩ := q_none (qTop_no this)
    simp [e1, e3]
  have hne' : ¬ s = [] := by rintro rfl; exact hne rfl
  refine VL_inv (X := List UInt8 × Nat) (fun x => ⟨[(0, .str s), (4, .str x.1), (5, .int .i64 x.2)], []⟩)
    (fun x => x.2 ≤ s.length ∧ x.1.length ≤ x.2 ∧ qGo (s.drop x.2) x.1 x.2 = qTop s) (fun x => s.length - x.2) ([], 1) ?_ ?_ ?_
  · simp only [go_sem, go_sem, seval]
  · exact ⟨by simp only; omega, Nat.zero_le _, (qTop_yes hne' hq).symm⟩
  rintro ⟨out, i⟩ ⟨h1, h2, h3⟩
  simp only at h1 h2 h3
  simp (config := {maxSteps := 2000000}) only [T_specQuotedR, Go.Proofs.Tryz.Oct.tb_specValueR, go_sem, seval]
  (try simp (config := {maxSteps := 2000000}) only [gimp, impB, isT, go_sem, seval])
  have no : qTop s = none → [] = qText s ∧ (0 : Int) = (qLen s : Int) := by
    intro hn
    obtain ⟨e1, e2, e3⟩ := q_none hn
    simp [e1, e3]
  refine ⟨fun hlt => ⟨by omega, fun hq1 => ?_, fun hnq => ⟨by omega, fun hs1 => ?_, fun hns => ?_⟩⟩, fun hge => no (by rw [← h3]; exact qGo_end (by omega))⟩
  · rw [qGo_quote (by omega) hq1] at h3
    obtain ⟨e1, e2, e3⟩ := q_some h3.symm
    rw [e1, e3]
    exact ⟨by omega, rfl, by omega⟩
  · by_cases hlt2 : i + 1 < s.length
    · rw [qGo_slash hlt2 hs1] at h3
      rw [one_of2 hlt2, valueS_one]
      refine ⟨by omega, ⟨fun _ => by omega, fun _ => by omega⟩, ⟨fun _ => by omega, fun _ => by omega, fun _ => by omega⟩, fun _ => by simp, fun hno => ?_, fun _ hv => ⟨by omega, by omega, by simp; omega, by omega, (out ++ [s.getD (i + 1) 0], i + 2), ⟨rfl, by simp only; omega⟩, ⟨by simp only; omega, by simp; omega, ?_⟩, by simp only; omega⟩⟩
      · rcases hno with hno | hno
        · omega
        · exact no (by rw [← h3, hno]; rfl)
      · rw [← h3, if_pos hv]
    · refine ⟨by omega, ⟨fun _ => by omega, fun _ => by omega⟩, ⟨fun _ => by omega, fun _ => by omega, fun _ => by omega⟩, fun _ => by omega, fun _ => ?_, fun h => by omega⟩
      exact no (by rw [← h3]; exact qGo_slash_end (by omega) hs1)
  · have hlt' : i < s.length := by omega
    rw [qGo_plain hlt' hnq hns] at h3
    rw [one_of hlt', valueS_one]
    refine ⟨⟨fun _ => by omega, fun _ => by omega⟩, ⟨fun _ => by omega, fun _ => by omega, fun _ => by omega⟩, fun _ => by simp, fun hno => ?_, fun _ hv => ⟨by omega, by omega, by simp; omega, by omega, (out ++ [s.getD i 0], i + 1), ⟨rfl, by simp only; omega⟩, ⟨by simp only; omega, by simp; omega, ?_⟩, by simp only; omega⟩⟩
    · rcases hno with hno | hno
      · omega
      · exact no (by rw [← h3, hno]; rfl)
    · rw [← h3, if_pos hv]
def tb_specQuotedR : List Blk → List AV → Option (List Blk × AV × Prop)
  | [], [.str s] => some ([], .tuple [.str (qText s), .int .i64 (qLen s)], (s.length ≤ 1000000))
  | _, _ => none
theorem tb_specQuotedR_ok : ∀ E args E' res p, tb_specQuotedR E args = some (E', res, p) → p → SpecE Tryz.prog 210 E args E' res := by
  intro E args E' res p h hp
  unfold tb_specQuotedR at h
  split at h
  · simp only [Option.some.injEq, Prod.mk.injEq] at h
    obtain ⟨rfl, rfl, rfl⟩ := h
    exact (specQuotedR _ hp)
  · cases h
def T_specTokenR : Tbl := fun g E args => (addT nilT 51 Go.Proofs.Tryz.Oct.tb_specTcharR) g E args
theorem T_specTokenR_ok : TblOK Tryz.prog T_specTokenR := (addT_ok nilT_ok (by decide +kernel) Go.Proofs.Tryz.Oct.tb_specTcharR_ok)
set_option maxRecDepth 100000 in
set_option maxHeartbeats 4000000 in
theorem specTokenR (s : List UInt8) (h : s.length ≤ 1000000) : SpecE Tryz.prog 209 [] [.str s] [] (.int .i64 (spanL tcharB s)) := by
  refine specF0 (C := T_specTokenR) (wr := false) (D := fun _ => []) (U := fun _ => none) (res := [.int .i64 (spanL tcharB s)]) Tryz.Ty.mixed T_specTokenR_ok Tryz.func209 (nA := 1) (by decide +kernel) rfl (fun _ => rfl) ?_
  simp only [Tryz.f209, bodyOf, rlOf]
  rw [W_V]
  simp (config := {maxSteps := 2000000}) only [T_specTokenR, Go.Proofs.Tryz.Oct.tb_specTcharR, go_sem, seval]
  (try simp (config := {maxSteps := 2000000}) only [gimp, impB, isT, go_sem, seval])
  refine VL_inv (X := Nat) (fun x => ⟨[(0, .str s), (3, .int .i64 x)], []⟩) (fun x => x ≤ s.length ∧ (s.take x).all tcharB = true) (fun x => s.length - x) 0 ?_ ?_ ?_
  · simp only [go_sem, go_sem, seval]
  · exact ⟨Nat.zero_le _, by simp⟩
  rintro x ⟨hx, hn⟩
  simp (config := {maxSteps := 2000000}) only [T_specTokenR, Go.Proofs.Tryz.Oct.tb_specTcharR, go_sem, seval]
  (try simp (config := {maxSteps := 2000000}) only [gimp, impB, isT, go_sem, seval])
  refine ⟨fun h => by omega, fun hlt hp => ⟨by omega, x + 1, by omega, ⟨by omega, (all_step (by omega) hn).1 hp⟩, by omega⟩, fun hf => ?_⟩
  rw [← span_exit hx hn (fun hlt => ?_)]
  rw [decide_eq_true (by omega : (x : Int) < s.length), Bool.true_and] at hf
  exact hf
def tb_specTokenR : List Blk → List AV → Option (List Blk × AV × Prop)
  | [], [.str s] => some ([], .int .i64 (spanL tcharB s), (s.length ≤ 1000000))
  | _, _ => none
theorem tb_specTokenR_ok : ∀ E args E' res p, tb_specTokenR E args = some (E', res, p) → p → SpecE Tryz.prog 209 E args E' res := by
  intro E args E' res p h hp
  unfold tb_specTokenR at h
  split at h
  · simp only [Option.some.injEq, Prod.mk.injEq] at h
    obtain ⟨rfl, rfl, rfl⟩ := h
    exact (specTokenR _ hp)
  · cases h
end Go.Proofs.Tryz.Cur
end
