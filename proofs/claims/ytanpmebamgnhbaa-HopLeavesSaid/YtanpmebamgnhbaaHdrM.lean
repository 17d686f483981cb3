/- header: what is computed. No condition. -/
import Derived.Test.YtanpmebamgnhbaaListsB
set_option linter.unusedVariables false
set_option linter.unusedSimpArgs false
namespace Go.Mdl
open Go Go.Abs

abbrev Fld := List UInt8 × List UInt8
/-- Has a field one of some names? -/
def isN (names : List (List UInt8)) (f : Fld) : Bool := names.any fun n => foldS n f.1
def allS (l : List Fld) (name : List UInt8) : List (List UInt8) := (l.filter (isN [name])).map (·.2)
def combS (l : List Fld) (name : List UInt8) : List UInt8 := joinS (allS l name)
def withoutS (l : List Fld) (names : List (List UInt8)) : List Fld := l.filter fun f => !isN names f
def withS (l : List Fld) (n v : List UInt8) : List Fld := l ++ [(n, v)]
def getS (l : List Fld) (name : List UInt8) : List UInt8 := (allS l name).headD []
def hasF (l : List Fld) (name : List UInt8) : Bool := l.any (isN [name])
def setS (l : List Fld) (n v : List UInt8) : List Fld :=
  if hasF l n = true then l.take (l.findIdx (isN [n])) ++ ((l.getD (l.findIdx (isN [n])) ([], [])).1, v) :: withoutS (l.drop (l.findIdx (isN [n]) + 1)) [n] else withS l n v

theorem foldS_comm (a b : List UInt8) : foldS a b = foldS b a := by simp [foldS, eq_comm]
theorem isN_one (n : List UInt8) (f : Fld) : isN [n] f = foldS n f.1 := by simp [isN]
theorem allS_take_succ {l : List Fld} {k : Nat} (n : List UInt8) (h : k < l.length) : allS (l.take (k + 1)) n = allS (l.take k) n ++ if isN [n] (l.getD k ([], [])) = true then [(l.getD k ([], [])).2] else [] := by
  rw [take_succ_getD ([], []) h]
  simp only [allS, List.filter_append, List.map_append]
  congr 1
  by_cases hh : isN [n] (l.getD k ([], [])) = true
  · rw [if_pos hh, List.filter_cons_of_pos hh]; rfl
  · rw [if_neg hh, List.filter_cons_of_neg hh]; rfl
theorem allS_len (l : List Fld) (n : List UInt8) : (allS l n).length ≤ l.length := by
  have := List.length_filter_le (isN [n]) l
  simpa [allS] using this
theorem allS_mem {l : List Fld} {n e : List UInt8} (h : e ∈ allS l n) : ∃ f ∈ l, e = f.2 ∧ isN [n] f = true := by
  simp only [allS, List.mem_map, List.mem_filter] at h
  obtain ⟨f, ⟨h1, h2⟩, rfl⟩ := h
  exact ⟨f, h1, rfl, h2⟩
theorem hasF_iff (l : List Fld) (n : List UInt8) : hasF l n = !decide (allS l n = []) := by
  cases h : hasF l n with
  | true =>
    obtain ⟨f, hf, h2⟩ := List.any_eq_true.1 h
    have : f.2 ∈ allS l n := by simp only [allS, List.mem_map, List.mem_filter]; exact ⟨f, ⟨hf, h2⟩, rfl⟩
    have hne : allS l n ≠ [] := fun e => by rw [e] at this; simp at this
    simp [hne]
  | false =>
    have : l.filter (isN [n]) = [] := by
      rw [List.filter_eq_nil_iff]
      intro f hf
      have := List.any_eq_false.1 h f hf
      exact this
    simp [allS, this]
/-- So few fields, and so short ones, as the statements speak of. -/
def shortF (f : Fld) : Bool := decide (f.1.length ≤ 100) && decide (f.2.length ≤ 300)
def fewF (l : List Fld) : Bool := decide (l.length ≤ 40) && l.all shortF
theorem fewF_len {l : List Fld} (h : fewF l = true) : l.length ≤ 40 ∧ ∀ f ∈ l, f.1.length ≤ 100 ∧ f.2.length ≤ 300 := by
  simp only [fewF, Bool.and_eq_true, decide_eq_true_eq, List.all_eq_true] at h
  refine ⟨h.1, fun f hf => ?_⟩
  have := h.2 f hf
  simpa only [shortF, Bool.and_eq_true, decide_eq_true_eq] using this
theorem comb_len {l : List Fld} (n : List UInt8) (h : fewF l = true) : (combS l n).length ≤ 12080 := by
  obtain ⟨h1, h2⟩ := fewF_len h
  have h3 := allS_len l n
  have := joinS_len (l := allS l n) (m := 300) (fun e he => by obtain ⟨f, hf, rfl, _⟩ := allS_mem he; exact (h2 f hf).2)
  have h4 := Nat.mul_le_mul (show (allS l n).length ≤ 40 by omega) (Nat.le_refl (300 + 2))
  unfold combS; omega
theorem isN_take_succ {names : List (List UInt8)} {k : Nat} (f : Fld) (h : k < names.length) : isN (names.take (k + 1)) f = (isN (names.take k) f || foldS (names.getD k []) f.1) := by
  rw [take_succ_getD [] h]; simp [isN]
theorem without_take_succ {l : List Fld} {k : Nat} (names : List (List UInt8)) (h : k < l.length) : withoutS (l.take (k + 1)) names = withoutS (l.take k) names ++ if isN names (l.getD k ([], [])) = true then [] else [l.getD k ([], [])] := by
  rw [take_succ_getD ([], []) h]
  simp only [withoutS, List.filter_append]
  congr 1
  by_cases hh : isN names (l.getD k ([], [])) = true
  · rw [if_pos hh, List.filter_cons_of_neg (by rw [hh]; simp)]; rfl
  · rw [if_neg hh, List.filter_cons_of_pos (by simpa using hh)]; rfl
theorem without_len (l : List Fld) (names : List (List UInt8)) : (withoutS l names).length ≤ l.length := List.length_filter_le _ _
theorem hasF_snoc (m : List Fld) (f : Fld) (n : List UInt8) : hasF (m ++ [f]) n = (hasF m n || isN [n] f) := by simp [hasF]
theorem set_snoc_had {m : List Fld} {f : Fld} {n v : List UInt8} (h : hasF m n = true) : setS (m ++ [f]) n v = setS m n v ++ if isN [n] f = true then [] else [f] := by
  have hx : m.findIdx (isN [n]) < m.length := List.findIdx_lt_length.2 (List.any_eq_true.1 h)
  have hi : (m ++ [f]).findIdx (isN [n]) = m.findIdx (isN [n]) := by
    rw [List.findIdx_append]; rw [if_pos hx]
  unfold setS
  rw [hasF_snoc, h, Bool.true_or, if_pos rfl, if_pos rfl, hi]
  generalize m.findIdx (isN [n]) = i at *
  have e1 : (m ++ [f]).take i = m.take i := List.take_append_of_le_length (by omega)
  have e2 : (m ++ [f]).getD i ([], []) = m.getD i ([], []) := by
    simp only [List.getD_eq_getElem?_getD, List.getElem?_append_left hx]
  have e3 : (m ++ [f]).drop (i + 1) = m.drop (i + 1) ++ [f] := List.drop_append_of_le_length (by omega)
  rw [e1, e2, e3]
  have e4 : withoutS (m.drop (i + 1) ++ [f]) [n] = withoutS (m.drop (i + 1)) [n] ++ if isN [n] f = true then [] else [f] := by
    simp only [withoutS, List.filter_append]
    congr 1
    by_cases hh : isN [n] f = true
    · rw [if_pos hh, List.filter_cons_of_neg (by rw [hh]; simp)]; rfl
    · rw [if_neg hh, List.filter_cons_of_pos (by simpa using hh)]; rfl
  rw [e4]; simp
theorem set_snoc_new {m : List Fld} {f : Fld} {n v : List UInt8} (h : hasF m n = false) (hf : isN [n] f = true) : setS (m ++ [f]) n v = m ++ [(f.1, v)] := by
  have hi : (m ++ [f]).findIdx (isN [n]) = m.length := by
    rw [List.findIdx_append, if_neg (fun hx => by
      have := List.any_eq_true.2 (List.findIdx_lt_length.1 hx)
      rw [show m.any (isN [n]) = hasF m n from rfl, h] at this; cases this)]
    rw [List.findIdx_cons, hf]; simp
  unfold setS
  rw [hasF_snoc, h, hf, Bool.false_or, if_pos rfl, hi]
  simp [withoutS]
/-- How far a field is set, one by one. -/
def setGo (m : List Fld) (n v : List UInt8) : List Fld := if hasF m n = true then setS m n v else m
theorem setGo_len (m : List Fld) (n v : List UInt8) : (setGo m n v).length ≤ m.length := by
  unfold setGo
  split
  · rename_i h
    have hx : m.findIdx (isN [n]) < m.length := List.findIdx_lt_length.2 (List.any_eq_true.1 h)
    have := List.length_filter_le (fun f => !isN [n] f) (m.drop (m.findIdx (isN [n]) + 1))
    unfold setS
    rw [if_pos h]
    simp only [List.length_append, List.length_cons, List.length_take, withoutS, List.length_drop] at this ⊢
    omega
  · exact Nat.le_refl _
theorem setGo_snoc (m : List Fld) (f : Fld) (n v : List UInt8) : setGo (m ++ [f]) n v = setGo m n v ++ if isN [n] f = true then (if hasF m n = true then [] else [(f.1, v)]) else [f] := by
  unfold setGo
  rw [hasF_snoc]
  cases h : hasF m n with
  | true => rw [Bool.true_or, if_pos rfl, if_pos rfl, set_snoc_had h, if_pos rfl]
  | false =>
    cases hf : isN [n] f with
    | true => rw [Bool.false_or, if_pos rfl, set_snoc_new h hf]; rfl
    | false => simp
end Go.Mdl
