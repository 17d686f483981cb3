/- config: what is computed. No condition. -/
import Derived.Test.YtlkfjkimnkhelaaDoorHostB
import Derived.Test.YtlkfjkimnkhelaaDoorLibS
import Derived.Test.YtlkfjkimnkhelaaDoorDig
set_option linter.unusedVariables false
set_option linter.unusedSimpArgs false
namespace Go.Mdl
open Go Go.Abs

/-- From what to what the numbers may be. -/
def cfgLo : List Int := [0, 0, 0, 0, 1, 1, 0, 0, 1, 1, 0, 16, 1, 3, 0, 0]
def cfgHi : List Int := [1, 1, 1, 1, 65536, 65536, 100, 1073741824, 16, 16, 1, 65536, 1000, 4096, 1048576, 1]
def cfgL (n0 n1 n2 n3 n4 n5 n6 n7 n8 n9 n10 n11 n12 n13 n14 n15 : Int) : List Int := [n0, n1, n2, n3, n4, n5, n6, n7, n8, n9, n10, n11, n12, n13, n14, n15]
def cfgAt (l : List Int) (i : Nat) : Bool := decide (cfgLo.getD i 0 ≤ l.getD i 0) && decide (l.getD i 0 ≤ cfgHi.getD i 0)
def cfgOk (l : List Int) : Bool := (List.range 16).all (cfgAt l)
def cfgErr (nm au : List UInt8) (l : List Int) : Int :=
  if tokenS nm = false ∨ 100 < nm.length then 6
  else if au ≠ [] ∧ (hostKey au ≠ au ∨ 200 < au.length) then 13
  else if cfgOk l = true then 0 else 5
def cfgAu (au : List UInt8) : List UInt8 := if au = [] then [45] else au
/-- The text of right settings. -/
def cfgText (nm au : List UInt8) (l : List Int) : List UInt8 :=
  if cfgErr nm au l = 0 then nm ++ 32 :: cfgAu au ++ l.flatMap (fun n => 32 :: textI n) else []
theorem cfgLo_len : cfgLo.length = 16 := rfl
theorem cfgHi_len : cfgHi.length = 16 := rfl
theorem cfgL_len (n0 n1 n2 n3 n4 n5 n6 n7 n8 n9 n10 n11 n12 n13 n14 n15 : Int) : (cfgL n0 n1 n2 n3 n4 n5 n6 n7 n8 n9 n10 n11 n12 n13 n14 n15).length = 16 := rfl
theorem cfgErr_name {nm au : List UInt8} {l : List Int} (h : tokenS nm = false ∨ (100 : Int) < nm.length) : cfgErr nm au l = 6 := by
  rw [cfgErr, if_pos]
  rcases h with h | h
  · exact .inl h
  · exact .inr (by omega)
theorem cfgErr_host {nm au : List UInt8} {l : List Int} (h1 : tokenS nm = true) (h2 : (nm.length : Int) ≤ 100) (h3 : ¬au = []) (h4 : ¬hostKey au = au ∨ (200 : Int) < (hostKey au).length) : cfgErr nm au l = 13 := by
  rw [cfgErr, if_neg (by rw [h1]; rintro (h | h); cases h; omega), if_pos]
  refine ⟨h3, ?_⟩
  by_cases h : hostKey au = au
  · rw [h] at h4; simp only [not_true_eq_false, false_or] at h4; exact .inr (by omega)
  · exact .inl h
theorem cfgErr_num {nm au : List UInt8} {l : List Int} (h1 : tokenS nm = true) (h2 : (nm.length : Int) ≤ 100) (h3 : (!decide (au = []) && (!decide (hostKey au = au) || decide ((200 : Int) < (hostKey au).length))) = false) : cfgErr nm au l = if cfgOk l = true then 0 else 5 := by
  rw [cfgErr, if_neg (by rw [h1]; rintro (h | h); cases h; omega), if_neg]
  rintro ⟨g1, g2⟩
  simp only [g1, decide_false, Bool.not_false, Bool.true_and, Bool.or_eq_false_iff, Bool.not_eq_false', decide_eq_true_eq, decide_eq_false_iff_not] at h3
  rcases g2 with g | g
  · exact g h3.1
  · rw [h3.1] at h3; omega
theorem cfgOk_out {l : List Int} (i : Nat) (hi : i < 16) (h : l.getD i 0 < cfgLo.getD i 0 ∨ cfgHi.getD i 0 < l.getD i 0) : (5 : Int) = if cfgOk l = true then 0 else 5 := by
  rw [if_neg]
  intro h2
  have := List.all_eq_true.1 h2 i (List.mem_range.2 hi)
  simp only [cfgAt, Bool.and_eq_true, decide_eq_true_eq] at this
  omega
theorem cfgOk_in {l : List Int} (h : ∀ i, i < 16 → cfgLo.getD i 0 ≤ l.getD i 0 ∧ l.getD i 0 ≤ cfgHi.getD i 0) : (0 : Int) = if cfgOk l = true then 0 else 5 := by
  rw [if_pos]
  rw [cfgOk, List.all_eq_true]
  intro i hi
  have := h i (List.mem_range.1 hi)
  simp only [cfgAt, Bool.and_eq_true, decide_eq_true_eq]
  exact this
theorem cfgOk_get {l : List Int} (h : cfgOk l = true) (i : Nat) (hi : i < 16) : cfgLo.getD i 0 ≤ l.getD i 0 ∧ l.getD i 0 ≤ cfgHi.getD i 0 := by
  have := List.all_eq_true.1 h i (List.mem_range.2 hi)
  simpa only [cfgAt, Bool.and_eq_true, decide_eq_true_eq] using this
theorem cfg_next {l : List Int} {k : Nat} (h : ∀ i : Nat, (i : Int) < (k : Int) → cfgLo.getD i 0 ≤ l.getD i 0 ∧ l.getD i 0 ≤ cfgHi.getD i 0) (hk : cfgLo.getD k 0 ≤ l.getD k 0 ∧ l.getD k 0 ≤ cfgHi.getD k 0) :
    ∀ i : Nat, (i : Int) < ((k + 1 : Nat) : Int) → cfgLo.getD i 0 ≤ l.getD i 0 ∧ l.getD i 0 ≤ cfgHi.getD i 0 := by
  intro i hi
  by_cases e : i = k
  · subst e; exact hk
  · exact h i (by omega)
theorem cfgErr_ok {nm au : List UInt8} {l : List Int} (h : cfgErr nm au l = 0) : nm.length ≤ 100 ∧ au.length ≤ 200 ∧ cfgOk l = true := by
  unfold cfgErr at h
  split at h
  · simp at h
  · rename_i h1
    split at h
    · simp at h
    · rename_i h2
      split at h
      · rename_i h3
        refine ⟨by simp only [not_or] at h1; omega, ?_, h3⟩
        by_cases e : au = []
        · subst e; simp
        · simp only [not_and, not_or] at h2
          have := (h2 e).2
          omega
      · simp at h
theorem cfg_range {l : List Int} (h : cfgOk l = true) (i : Nat) (hi : i < 16) : inR .i64 (l.getD i 0) := by
  have h1 := cfgOk_get h i hi
  have h2 : ∀ i, i < 16 → -10 ≤ cfgLo.getD i 0 ∧ cfgHi.getD i 0 ≤ 1073741824 := by decide
  have := h2 i hi
  simp only [inR]
  omega
theorem cfg_join (a b : List UInt8) (l : List Int) : Lib.join (a :: b :: l.map textI) [32] = a ++ 32 :: b ++ l.flatMap (fun n => 32 :: textI n) := by
  rw [Lib.join_cons, Lib.joinTail, List.map_cons, List.flatten_cons, List.map_map]
  simp [List.flatMap_def, Function.comp_def]
theorem flat_text_len (l : List Int) : (l.flatMap (fun n => 32 :: textI n)).length ≤ 72 * l.length := by
  induction l with
  | nil => simp
  | cons a r ih =>
    have := textI_len a
    simp only [List.flatMap_cons, List.length_append, List.length_cons]
    omega
theorem cfgAu_len (au : List UInt8) : (cfgAu au).length ≤ au.length + 1 := by unfold cfgAu; split <;> simp
theorem flat_snoc (l : List Int) (k : Nat) (h : k < l.length) : (l.take (k + 1)).flatMap (fun n => 32 :: textI n) = (l.take k).flatMap (fun n => 32 :: textI n) ++ 32 :: textI (l.getD k 0) := by
  rw [take_succ_getD 0 h, List.flatMap_append]; simp
theorem map_text_snoc (l : List Int) (k : Nat) (h : k < l.length) : (l.take (k + 1)).map textI = (l.take k).map textI ++ [textI (l.getD k 0)] := by
  rw [take_succ_getD 0 h, List.map_append]; simp
/-- The words of the text, up to the k-th number. -/
def cfgW (nm au : List UInt8) (l : List Int) (k : Nat) : List (List UInt8) := nm :: cfgAu au :: (l.take k).map textI
theorem cfgW_zero (nm au : List UInt8) (l : List Int) : cfgW nm au l 0 = [nm, cfgAu au] := rfl
theorem cfgW_next (nm au : List UInt8) (l : List Int) (k : Nat) (h : k < l.length) : cfgW nm au l (k + 1) = cfgW nm au l k ++ [textI (l.getD k 0)] := by
  rw [cfgW, cfgW, map_text_snoc l k h]; rfl
theorem cfgW_len (nm au : List UInt8) (l : List Int) (k : Nat) (h : k ≤ l.length) : (cfgW nm au l k).length = k + 2 := by
  simp only [cfgW, List.length_cons, List.length_map, List.length_take]; omega
theorem cfgW_step (nm au : List UInt8) {l : List Int} (hl : l.length = 16) (k : Nat) (h : k < 16) :
    ((cfgW nm au l k).length ≤ 9223372036854775806 ∧ ((cfgW nm au l k).length + 1) * 16 ≤ 140737488355328) ∧ (cfgW nm au l k).length + 1 = (cfgW nm au l (k + 1)).length ∧
      (cfgW nm au l k).map AV.str ++ [.str (textI (l.getD k 0))] = (cfgW nm au l (k + 1)).map .str := by
  have h1 := cfgW_len nm au l k (by omega)
  have h2 := cfgW_len nm au l (k + 1) (by omega)
  refine ⟨⟨by omega, by omega⟩, by omega, ?_⟩
  rw [cfgW_next nm au l k (by omega), List.map_append]; rfl
theorem cfgW_all (nm au : List UInt8) (l : List Int) : Lib.join (cfgW nm au l l.length) [32] = nm ++ 32 :: cfgAu au ++ l.flatMap (fun n => 32 :: textI n) := by
  rw [cfgW, List.take_length, cfg_join]
end Go.Mdl
