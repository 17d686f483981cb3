/- field: texts trimmed, lines and fields come back. No condition. -/
import Derived.Test.YtnfidlgiaaeleaaDoorFldM
set_option linter.unusedVariables false
set_option linter.unusedSimpArgs false
namespace Go.Mdl
open Go Go.Abs
theorem trimL_len_u (s : List UInt8) : (trimL s).length ≤ s.length := (List.dropWhile_sublist _).length_le
theorem trimS_len_u (s : List UInt8) : (trimS s).length ≤ s.length := by
  have h1 := trimL_len_u s
  have h2 : (trimR (trimL s)).length ≤ (trimL s).length := by
    have := (List.dropWhile_sublist blankB (l := (trimL s).reverse)).length_le
    simpa [trimR] using this
  exact Nat.le_trans h2 h1
theorem trim_parts_u (s : List UInt8) : ∃ a b, s = a ++ (trimS s ++ b) ∧ a.all blankB = true ∧ b.all blankB = true := by
  refine ⟨s.takeWhile blankB, ((trimL s).reverse.takeWhile blankB).reverse, ?_, List.all_takeWhile, by rw [List.all_reverse]; exact List.all_takeWhile⟩
  have h1 : trimL s = trimR (trimL s) ++ ((trimL s).reverse.takeWhile blankB).reverse := by
    have := List.takeWhile_append_dropWhile (p := blankB) (l := (trimL s).reverse)
    have := congrArg List.reverse this
    rw [List.reverse_append, List.reverse_reverse] at this
    exact this.symm
  have h2 : s = s.takeWhile blankB ++ trimL s := List.takeWhile_append_dropWhile.symm
  conv => lhs; rw [h2, h1]
  rfl
theorem dropWhile_head_u {p : UInt8 → Bool} : ∀ {s : List UInt8} {a : UInt8} {r : List UInt8}, s.dropWhile p = a :: r → p a = false
  | [], a, r, h => by simp at h
  | c :: s, a, r, h => by
    rw [List.dropWhile_cons] at h
    split at h
    · exact dropWhile_head_u h
    · rename_i hc; cases h; simpa using hc
theorem trimL_idem_u (s : List UInt8) : trimL (trimL s) = trimL s := by
  refine trimL_none (fun h => ?_)
  unfold trimL at h ⊢
  cases hd : s.dropWhile blankB with
  | nil => rw [hd] at h; simp at h
  | cons a r => simpa using dropWhile_head_u hd
theorem trimR_nil_or_u (s : List UInt8) (h : 0 < (trimR s).length) : blankB ((trimR s).getD ((trimR s).length - 1) 0) = false := by
  unfold trimR at h ⊢
  cases hd : s.reverse.dropWhile blankB with
  | nil => rw [hd] at h; simp at h
  | cons a r => simpa using dropWhile_head_u hd
theorem trimR_first_u {s : List UInt8} (h : 0 < (trimR s).length) : (trimR s).getD 0 0 = s.getD 0 0 := by
  have hp : trimR s <+: s := by
    unfold trimR
    have := List.dropWhile_suffix blankB (l := s.reverse)
    have := List.reverse_prefix.2 this
    simpa using this
  obtain ⟨t, ht⟩ := hp
  have e : s.getD 0 0 = (trimR s ++ t).getD 0 0 := by rw [ht]
  rw [e]
  simp only [List.getD_eq_getElem?_getD]
  rw [List.getElem?_append_left h]
theorem trimS_idem_u (s : List UInt8) : trimS (trimS s) = trimS s := by
  have h1 : trimL (trimS s) = trimS s := by
    refine trimL_none (fun h => ?_)
    unfold trimS at h ⊢
    rw [trimR_first_u h]
    have h0 : 0 < (trimL s).length := by
      have := (List.dropWhile_sublist blankB (l := (trimL s).reverse)).length_le
      simp only [trimR, List.length_reverse] at h this
      omega
    have := trimL_idem_u s
    cases hd : trimL s with
    | nil => rw [hd] at h0; simp at h0
    | cons a r =>
      rw [hd] at this
      simp only [List.getD_cons_zero]
      rw [← Bool.not_eq_true]
      intro hb
      have e : trimL (a :: r) = trimL r := by simp [trimL, hb]
      rw [e] at this
      have hl := trimL_len_u r
      rw [this] at hl; simp at hl; omega
  show trimR (trimL (trimS s)) = trimS s
  rw [h1]
  exact trimR_none (fun h => trimR_nil_or_u _ h)
theorem tchar_58 : tcharB 58 = false := by decide
theorem tok_no58 {s : List UInt8} (h : s.all tcharB = true) : ∀ b ∈ s, b ≠ 58 := by
  intro b hb e
  have := List.all_eq_true.1 h b hb
  rw [e, tchar_58] at this; cases this
theorem upTo_pre {c : UInt8} : ∀ {s r : List UInt8}, (∀ b ∈ s, b ≠ c) → upTo c (s ++ c :: r) = s.length
  | [], r, _ => by simp [upTo]
  | a :: s, r, h => by
    have h1 : a ≠ c := h a (by simp)
    have := upTo_pre (c := c) (s := s) (r := r) (fun b hb => h b (by simp [hb]))
    simp [upTo, h1, this]
/-- A field that is right comes back from its line. -/
theorem line_back {n v : List UInt8} (h : fldRight n v = true) : fldErr (fldLine n v) = 0 ∧ fldName (fldLine n v) = n ∧ fldValue (fldLine n v) = v := by
  simp only [fldRight, Bool.and_eq_true, decide_eq_true_eq] at h
  obtain ⟨h1, h2, h3⟩ := h
  have ht : n.all tcharB = true := by simp only [tokenS, Bool.and_eq_true] at h1; exact h1.2
  have key : ∀ r, valueS r = true → trimS r = v → fldLine n v = n ++ 58 :: r → fldErr (fldLine n v) = 0 ∧ fldName (fldLine n v) = n ∧ fldValue (fldLine n v) = v := by
    intro r g1 g2 g3
    have e := upTo_pre (c := 58) (r := r) (tok_no58 ht)
    have e0 : (n ++ 58 :: r).take n.length = n := by simp
    have e1 : (n ++ 58 :: r).drop (n.length + 1) = r := by
      rw [List.drop_append, List.drop_of_length_le (by omega), show n.length + 1 - n.length = 1 by omega]; rfl
    have e2 : fldErr (n ++ 58 :: r) = 0 := by
      rw [fldErr, e, e0, e1, if_pos (by simp), if_pos h1, if_pos g1]
    rw [g3]
    exact ⟨e2, by rw [fldName, if_pos e2, e, e0], by rw [fldValue, if_pos e2, e, e1, g2]⟩
  by_cases hv : v = []
  · exact key [] rfl (by rw [hv]; rfl) (by rw [fldLine, if_pos hv])
  · refine key (32 :: v) ?_ ?_ (by rw [fldLine, if_neg hv])
    · simp only [valueS, List.all_cons, Bool.and_eq_true]
      exact ⟨by decide, h2⟩
    · have : trimS (32 :: v) = trimS v := by simp [trimS, trimL, show blankB 32 = true from rfl]
      rw [this]; exact h3
theorem value_trim {s : List UInt8} (h : valueS s = true) : valueS (trimS s) = true := by
  obtain ⟨a, b, e, _, _⟩ := trim_parts_u s
  unfold valueS at h ⊢
  rw [e, List.all_append, List.all_append] at h
  simp only [Bool.and_eq_true] at h
  exact h.2.1
/-- A field that is read is right. -/
theorem read_right {s : List UInt8} (h : fldErr s = 0) : fldRight (fldName s) (fldValue s) = true := by
  have h0 := h
  unfold fldErr at h
  split at h
  · split at h
    · rename_i h2
      split at h
      · rename_i h3
        rw [fldRight, fldName, if_pos h0, fldValue, if_pos h0, h2, value_trim h3, trimS_idem_u]
        simp
      · simp at h
    · simp at h
  · simp at h
theorem read_none {s : List UInt8} (h : fldErr s ≠ 0) : fldName s = [] ∧ fldValue s = [] := ⟨by rw [fldName, if_neg h], by rw [fldValue, if_neg h]⟩
end Go.Mdl
