/- diff: the longest common part of two lists, from the front and from the back. No condition. -/
set_option linter.unusedVariables false
set_option linter.unusedSimpArgs false
namespace Go.Mdl
theorem sub_tail {α : Type} {x : α} {s a : List α} (h : s.Sublist (x :: a)) : s.tail.Sublist a := by
  cases h with
  | cons _ h => exact (List.tail_sublist s).trans h
  | cons_cons _ h => exact h

section
variable {α : Type} [DecidableEq α]
/-- How long the longest common part of two lists is. -/
def lcs : List α → List α → Nat
  | [], _ => 0
  | _ :: _, [] => 0
  | x :: a, y :: b => if x = y then lcs a b + 1 else max (lcs a (y :: b)) (lcs (x :: a) b)
termination_by a b => a.length + b.length
theorem lcs_nil (b : List α) : lcs ([] : List α) b = 0 := by rw [lcs]
theorem lcs_nil' (a : List α) : lcs a ([] : List α) = 0 := by cases a <;> rw [lcs]
theorem lcs_cons (x y : α) (a b : List α) : lcs (x :: a) (y :: b) = if x = y then lcs a b + 1 else max (lcs a (y :: b)) (lcs (x :: a) b) := by rw [lcs]

theorem lcs_ub : ∀ (n : Nat) (a b s : List α), a.length + b.length ≤ n → s.Sublist a → s.Sublist b → s.length ≤ lcs a b
  | n, [], b, s, _, h1, _ => by
    have := List.sublist_nil.1 h1
    subst this; simp
  | n, x :: a, [], s, _, _, h2 => by
    have := List.sublist_nil.1 h2
    subst this; simp
  | 0, x :: a, y :: b, s, hn, _, _ => by simp at hn
  | n + 1, x :: a, y :: b, s, hn, h1, h2 => by
    simp only [List.length_cons] at hn
    rw [lcs_cons]
    split
    · have := lcs_ub n a b s.tail (by omega) (sub_tail h1) (sub_tail h2)
      rw [List.length_tail] at this
      omega
    · rename_i hne
      cases h1 with
      | cons _ h1 =>
        have := lcs_ub n a (y :: b) s (by simp only [List.length_cons]; omega) h1 h2
        omega
      | cons_cons _ h1 =>
        cases h2 with
        | cons _ h2 =>
          have := lcs_ub n (x :: a) b _ (by simp only [List.length_cons]; omega) (h1.cons_cons x) h2
          omega
        | cons_cons _ h2 => exact absurd rfl hne

theorem lcs_ex : ∀ (n : Nat) (a b : List α), a.length + b.length ≤ n → ∃ s : List α, s.Sublist a ∧ s.Sublist b ∧ s.length = lcs a b
  | n, [], b, _ => ⟨[], List.Sublist.refl _, List.nil_sublist b, by rw [lcs_nil]; rfl⟩
  | n, x :: a, [], _ => ⟨[], List.nil_sublist _, List.Sublist.refl _, by rw [lcs_nil']; rfl⟩
  | 0, x :: a, y :: b, hn => by simp at hn
  | n + 1, x :: a, y :: b, hn => by
    simp only [List.length_cons] at hn
    rw [lcs_cons]
    split
    · rename_i e
      subst e
      obtain ⟨s, h1, h2, h3⟩ := lcs_ex n a b (by omega)
      exact ⟨x :: s, h1.cons_cons x, h2.cons_cons x, by simp [h3]⟩
    · rcases Nat.le_total (lcs a (y :: b)) (lcs (x :: a) b) with h | h
      · obtain ⟨s, h1, h2, h3⟩ := lcs_ex n (x :: a) b (by simp only [List.length_cons]; omega)
        exact ⟨s, h1, h2.cons y, by omega⟩
      · obtain ⟨s, h1, h2, h3⟩ := lcs_ex n a (y :: b) (by simp only [List.length_cons]; omega)
        exact ⟨s, h1.cons x, h2, by omega⟩

theorem lcs_rev_le (a b : List α) : lcs a b ≤ lcs a.reverse b.reverse := by
  obtain ⟨s, h1, h2, h3⟩ := lcs_ex _ a b (Nat.le_refl _)
  have := lcs_ub _ a.reverse b.reverse s.reverse (Nat.le_refl _) (List.reverse_sublist.2 h1) (List.reverse_sublist.2 h2)
  simpa [h3] using this
theorem lcs_rev (a b : List α) : lcs a.reverse b.reverse = lcs a b := by
  have h1 := lcs_rev_le a b
  have h2 := lcs_rev_le a.reverse b.reverse
  simp only [List.reverse_reverse] at h2
  omega
theorem lcs_snoc (x y : α) (a b : List α) : lcs (a ++ [x]) (b ++ [y]) = if x = y then lcs a b + 1 else max (lcs a (b ++ [y])) (lcs (a ++ [x]) b) := by
  rw [← lcs_rev (a ++ [x]) (b ++ [y]), List.reverse_append, List.reverse_append]
  simp only [List.reverse_cons, List.reverse_nil, List.nil_append, List.cons_append]
  rw [lcs_cons, lcs_rev, ← lcs_rev a (b ++ [y]), ← lcs_rev (a ++ [x]) b, List.reverse_append, List.reverse_append]
  simp only [List.reverse_cons, List.reverse_nil, List.nil_append, List.cons_append]
theorem lcs_le (a b : List α) : lcs a b ≤ a.length := by
  obtain ⟨s, h1, _, h3⟩ := lcs_ex _ a b (Nat.le_refl _)
  rw [← h3]; exact h1.length_le

/-- How two lists differ. -/
def linesS : List α → List α → List (Int × α)
  | [], [] => []
  | x :: a, [] => (1, x) :: linesS a []
  | [], y :: b => (2, y) :: linesS [] b
  | x :: a, y :: b => if x = y then (0, x) :: linesS a b else if lcs a (y :: b) ≥ lcs (x :: a) b then (1, x) :: linesS a (y :: b) else (2, y) :: linesS (x :: a) b
termination_by a b => a.length + b.length
theorem linesS_nn : linesS ([] : List α) [] = [] := by rw [linesS]
theorem linesS_cn (x : α) (a : List α) : linesS (x :: a) [] = (1, x) :: linesS a [] := by rw [linesS]
theorem linesS_nc (y : α) (b : List α) : linesS [] (y :: b) = (2, y) :: linesS [] b := by rw [linesS]
theorem linesS_cc (x y : α) (a b : List α) : linesS (x :: a) (y :: b) = if x = y then (0, x) :: linesS a b else if lcs a (y :: b) ≥ lcs (x :: a) b then (1, x) :: linesS a (y :: b) else (2, y) :: linesS (x :: a) b := by rw [linesS]

theorem linesS_len : ∀ (n : Nat) (a b : List α), a.length + b.length ≤ n → (linesS a b).length ≤ a.length + b.length
  | n, [], [], _ => by rw [linesS_nn]; simp
  | 0, x :: a, b, hn => by simp at hn
  | 0, [], y :: b, hn => by simp at hn
  | n + 1, x :: a, [], hn => by
    have := linesS_len n a [] (by simp only [List.length_cons, List.length_nil] at hn ⊢; omega)
    rw [linesS_cn]; simp only [List.length_cons, List.length_nil] at this ⊢; omega
  | n + 1, [], y :: b, hn => by
    have := linesS_len n [] b (by simp only [List.length_cons, List.length_nil] at hn ⊢; omega)
    rw [linesS_nc]; simp only [List.length_cons, List.length_nil] at this ⊢; omega
  | n + 1, x :: a, y :: b, hn => by
    simp only [List.length_cons] at hn
    have h1 := linesS_len n a b (by omega)
    have h2 := linesS_len n a (y :: b) (by simp only [List.length_cons]; omega)
    have h3 := linesS_len n (x :: a) b (by simp only [List.length_cons]; omega)
    simp only [List.length_cons] at h2 h3
    rw [linesS_cc]
    split
    · simp only [List.length_cons]; omega
    · split <;> (simp only [List.length_cons]; omega)

/-- Rows applied to lines. -/
def applyS : List α → List (Int × α) → Option (List α)
  | a, [] => if a.isEmpty = true then some [] else none
  | a, (s, t) :: r =>
    if s < 0 ∨ s > 2 then none
    else if s = 2 then (applyS a r).map (t :: ·)
    else match a with
      | [] => none
      | x :: a => if x = t then (if s = 1 then applyS a r else (applyS a r).map (t :: ·)) else none
def turnS (l : List (Int × α)) : List (Int × α) := l.map fun r => (if r.1 = 1 then 2 else if r.1 = 2 then 1 else r.1, r.2)

theorem applyS_new (a : List α) (t : α) (r : List (Int × α)) : applyS a ((2, t) :: r) = (applyS a r).map (t :: ·) := by
  simp [applyS]
theorem applyS_gone (x : α) (a : List α) (r : List (Int × α)) : applyS (x :: a) ((1, x) :: r) = applyS a r := by
  simp [applyS]
theorem applyS_same (x : α) (a : List α) (r : List (Int × α)) : applyS (x :: a) ((0, x) :: r) = (applyS a r).map (x :: ·) := by
  simp [applyS]

theorem apply_lines : ∀ (n : Nat) (a b : List α), a.length + b.length ≤ n → applyS a (linesS a b) = some b ∧ applyS b (turnS (linesS a b)) = some a
  | n, [], [], _ => by rw [linesS_nn]; exact ⟨by simp [applyS], by simp [turnS, applyS]⟩
  | 0, x :: a, b, hn => by simp at hn
  | 0, [], y :: b, hn => by simp at hn
  | n + 1, x :: a, [], hn => by
    have := apply_lines n a [] (by simp only [List.length_cons, List.length_nil] at hn ⊢; omega)
    rw [linesS_cn]
    refine ⟨by rw [applyS_gone]; exact this.1, ?_⟩
    show applyS [] ((2, x) :: turnS (linesS a [])) = _
    rw [applyS_new, this.2]; rfl
  | n + 1, [], y :: b, hn => by
    have := apply_lines n [] b (by simp only [List.length_cons, List.length_nil] at hn ⊢; omega)
    rw [linesS_nc]
    refine ⟨by rw [applyS_new, this.1]; rfl, ?_⟩
    show applyS (y :: b) ((1, y) :: turnS (linesS [] b)) = _
    rw [applyS_gone]; exact this.2
  | n + 1, x :: a, y :: b, hn => by
    simp only [List.length_cons] at hn
    have h1 := apply_lines n a b (by omega)
    have h2 := apply_lines n a (y :: b) (by simp only [List.length_cons]; omega)
    have h3 := apply_lines n (x :: a) b (by simp only [List.length_cons]; omega)
    rw [linesS_cc]
    split
    · rename_i e
      subst e
      refine ⟨by rw [applyS_same, h1.1]; rfl, ?_⟩
      show applyS (x :: b) ((0, x) :: turnS (linesS a b)) = _
      rw [applyS_same, h1.2]; rfl
    · split
      · refine ⟨by rw [applyS_gone]; exact h2.1, ?_⟩
        show applyS (y :: b) ((2, x) :: turnS (linesS a (y :: b))) = _
        rw [applyS_new, h2.2]; rfl
      · refine ⟨by rw [applyS_new, h3.1]; rfl, ?_⟩
        show applyS (y :: b) ((1, y) :: turnS (linesS (x :: a) b)) = _
        rw [applyS_gone]; exact h3.2
theorem lines_own : ∀ a : List α, linesS a a = a.map fun x => (0, x)
  | [] => by rw [linesS_nn]; rfl
  | x :: a => by rw [linesS_cc, if_pos rfl, lines_own a]; rfl
end
end Go.Mdl
