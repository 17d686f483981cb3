/- config: the settings that a text is: what is computed. No condition. -/
import Derived.Test.YtlkfjkimnkhelaaDoorCfgM
import Derived.Test.YtlkfjkimnkhelaaDoorSpl
set_option linter.unusedVariables false
set_option linter.unusedSimpArgs false
namespace Go.Mdl
open Go Go.Abs
def cfgMax : Nat → Int := fun _ => 1073741824
def cfgTo : Nat → Int := fun i => cfgHi.getD i 0
def cfgNm (s : List UInt8) : List UInt8 := (splitB 32 s).getD 0 []
def cfgW1 (s : List UInt8) : List UInt8 := (splitB 32 s).getD 1 []
def cfgA1 (s : List UInt8) : List UInt8 := if cfgW1 s = [45] then [] else cfgW1 s
def cfgN (M : Nat → Int) (s : List UInt8) (i : Nat) : Int := numVal 10 (M i) ((splitB 32 s).getD (i + 2) [])
def cfgNs (M : Nat → Int) (s : List UInt8) : List Int := cfgL (cfgN M s 0) (cfgN M s 1) (cfgN M s 2) (cfgN M s 3) (cfgN M s 4) (cfgN M s 5) (cfgN M s 6) (cfgN M s 7) (cfgN M s 8) (cfgN M s 9) (cfgN M s 10) (cfgN M s 11) (cfgN M s 12) (cfgN M s 13) (cfgN M s 14) (cfgN M s 15)
def cfgHas (M : Nat → Int) (s : List UInt8) : Bool := decide ((splitB 32 s).length = 18) && (!decide (s = []) && decide (cfgText (cfgNm s) (cfgA1 s) (cfgNs M s) = s))
def cfgRN (s : List UInt8) : List UInt8 := if cfgHas cfgTo s = true then cfgNm s else []
def cfgRA (s : List UInt8) : List UInt8 := if cfgHas cfgTo s = true then cfgA1 s else []
def cfgRI (s : List UInt8) (i : Nat) : Int := if cfgHas cfgTo s = true then cfgN cfgTo s i else 0
def cfgRE (s : List UInt8) : Int := if cfgHas cfgTo s = true then 0 else 3

theorem digs_free : ∀ (f n : Nat), ∀ x ∈ digsF 10 f n, x ≠ 32
  | 0, n, x, h => by simp [digsF] at h
  | f + 1, n, x, h => by
    have sg : ∀ k, k < 16 → signN k ≠ 32 := by decide
    simp only [digsF] at h
    split at h
    · simp at h; subst h; exact sg n (by omega)
    · rcases List.mem_append.1 h with h | h
      · exact digs_free f _ x h
      · simp at h; subst h; exact sg _ (by omega)
theorem text_free (n : Int) : ∀ x ∈ textI n, x ≠ 32 := by
  intro x hx
  unfold textI at hx
  split at hx
  · rcases List.mem_cons.1 hx with rfl | hx
    · decide
    · exact digs_free _ _ x hx
  · exact digs_free _ _ x hx
theorem splitB_flat : ∀ (l : List Int) (cur : List UInt8), (∀ x ∈ cur, x ≠ 32) → splitB 32 (cur ++ l.flatMap (fun n => 32 :: textI n)) = cur :: l.map textI
  | [], cur, h => by simp [splitB_no h]
  | n :: l, cur, h => by
    rw [List.flatMap_cons, List.cons_append, splitB_app h, splitB_flat l _ (text_free n)]
    rfl
theorem cfgNs_len (M : Nat → Int) (s : List UInt8) : (cfgNs M s).length = 16 := rfl
theorem cfgNs_get (M : Nat → Int) (s : List UInt8) (i : Nat) (h : i < 16) : (cfgNs M s).getD i 0 = cfgN M s i := by
  have : i = 0 ∨ i = 1 ∨ i = 2 ∨ i = 3 ∨ i = 4 ∨ i = 5 ∨ i = 6 ∨ i = 7 ∨ i = 8 ∨ i = 9 ∨ i = 10 ∨ i = 11 ∨ i = 12 ∨ i = 13 ∨ i = 14 ∨ i = 15 := by omega
  rcases this with rfl | rfl | rfl | rfl | rfl | rfl | rfl | rfl | rfl | rfl | rfl | rfl | rfl | rfl | rfl | rfl <;> rfl
theorem getD_free {c : UInt8} (s : List UInt8) (i : Nat) : ∀ x ∈ (splitB c s).getD i [], x ≠ c := by
  rw [List.getD_eq_getElem?_getD]
  cases h : (splitB c s)[i]? with
  | none => simp
  | some w => exact splitB_free (List.mem_of_getElem? h)
theorem getD_split_len (c : UInt8) (s : List UInt8) (i : Nat) : ((splitB c s).getD i []).length ≤ s.length := by
  rw [List.getD_eq_getElem?_getD]
  cases h : (splitB c s)[i]? with
  | none => simp
  | some w => exact splitB_mem_len (List.mem_of_getElem? h)
/-- What is printed as it was read has its numbers' texts for words. -/
theorem cfg_words {M : Nat → Int} {s : List UInt8} (h : cfgHas M s = true) : cfgErr (cfgNm s) (cfgA1 s) (cfgNs M s) = 0 ∧ ∀ i, i < 16 → (splitB 32 s).getD (i + 2) [] = textI (cfgN M s i) := by
  simp only [cfgHas, Bool.and_eq_true, decide_eq_true_eq, Bool.not_eq_true', decide_eq_false_iff_not] at h
  obtain ⟨h1, h2, h3⟩ := h
  by_cases he : cfgErr (cfgNm s) (cfgA1 s) (cfgNs M s) = 0
  · refine ⟨he, fun i hi => ?_⟩
    rw [cfgText, if_pos he] at h3
    have hn : ∀ x ∈ cfgNm s, x ≠ 32 := getD_free s 0
    have ha : ∀ x ∈ cfgAu (cfgA1 s), x ≠ 32 := by
      unfold cfgAu cfgA1
      have := getD_free (c := 32) s 1
      split
      · decide
      · split
        · simp
        · exact this
    have e : splitB 32 s = cfgNm s :: cfgAu (cfgA1 s) :: (cfgNs M s).map textI := by
      conv => lhs; rw [← h3]
      rw [List.append_assoc, List.cons_append, splitB_app hn, splitB_flat _ _ ha]
    have e2 : (splitB 32 s).getD (i + 2) [] = ((cfgNs M s).map textI).getD i [] := by rw [e]; rfl
    rw [e2, ← cfgNs_get M s i hi, List.getD_eq_getElem?_getD, List.getElem?_map, List.getD_eq_getElem?_getD, List.getElem?_eq_getElem (by rw [cfgNs_len]; exact hi)]
    rfl
  · rw [cfgText, if_neg he] at h3
    exact absurd h3.symm h2
theorem cfg_hi : ∀ i, i < 16 → 0 ≤ cfgLo.getD i 0 ∧ cfgHi.getD i 0 ≤ 1073741824 := by decide
theorem cfg_other {M M' : Nat → Int} {s : List UInt8} (hM : ∀ i, i < 16 → cfgHi.getD i 0 ≤ M' i) (h : cfgHas M s = true) : cfgNs M' s = cfgNs M s ∧ ∀ i, i < 16 → cfgN M' s i = cfgN M s i := by
  obtain ⟨h1, h2⟩ := cfg_words h
  have hok := (cfgErr_ok h1).2.2
  have key : ∀ i, i < 16 → cfgN M' s i = cfgN M s i := fun i hi => by
    have h3 := cfgOk_get hok i hi
    rw [cfgNs_get M s i hi] at h3
    have h4 := cfg_hi i hi
    have h5 := hM i hi
    show numVal 10 (M' i) _ = _
    rw [h2 i hi, (num_text (p := cfgN M s i) (most := M' i) (by omega) (by omega) (by omega)).2]
  refine ⟨?_, key⟩
  simp only [cfgNs]
  rw [key 0 (by decide), key 1 (by decide), key 2 (by decide), key 3 (by decide), key 4 (by decide), key 5 (by decide), key 6 (by decide), key 7 (by decide), key 8 (by decide), key 9 (by decide), key 10 (by decide), key 11 (by decide), key 12 (by decide), key 13 (by decide), key 14 (by decide), key 15 (by decide)]
theorem cfgHas_eq (s : List UInt8) : cfgHas cfgMax s = cfgHas cfgTo s := by
  have one : ∀ M M' : Nat → Int, (∀ i, i < 16 → cfgHi.getD i 0 ≤ M' i) → cfgHas M s = true → cfgHas M' s = true := fun M M' hM h => by
    have := (cfg_other hM h).1
    simp only [cfgHas, this] at h ⊢
    exact h
  have h1 := one cfgTo cfgMax (fun i hi => (cfg_hi i hi).2)
  have h2 := one cfgMax cfgTo (fun i hi => Int.le_refl _)
  cases ha : cfgHas cfgMax s <;> cases hb : cfgHas cfgTo s
  · rfl
  · rw [h1 hb] at ha; cases ha
  · rw [h2 ha] at hb; cases hb
  · rfl
theorem cfgN_eq {s : List UInt8} (h : cfgHas cfgTo s = true) (i : Nat) (hi : i < 16) : cfgN cfgMax s i = cfgN cfgTo s i := (cfg_other (fun i hi => (cfg_hi i hi).2) h).2 i hi
theorem numVal_rng (b most : Int) (s : List UInt8) (hb : b = 10 ∨ b = 16) : 0 ≤ numVal b most s ∧ (numVal b most s = 0 ∨ numVal b most s ≤ most) := by
  unfold numVal
  split
  · rename_i h
    unfold numErr at h
    split at h
    · simp at h
    · split at h
      · rename_i h2
        split at h
        · simp at h
        · exact ⟨numV_nonneg (by omega) s h2, .inr (by omega)⟩
      · simp at h
  · exact ⟨Int.le_refl _, .inl rfl⟩
/-- The numbers that are read so far. -/
def cfgK (s : List UInt8) (k i : Int) : Int := if i < k then cfgN cfgTo s i.toNat else 0
theorem cfgN_inR (M : Nat → Int) (s : List UInt8) (i : Nat) (h : M i ≤ 9223372036854775807) : inR .i64 (cfgN M s i) := by
  have := numVal_rng 10 (M i) ((splitB 32 s).getD (i + 2) []) (.inl rfl)
  simp only [inR, cfgN]; omega
end Go.Mdl
