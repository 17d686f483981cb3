/- hop: what is computed. No condition. -/
import Derived.Test.YtanpmebamgnhbaaConM
set_option linter.unusedVariables false
set_option linter.unusedSimpArgs false
namespace Go.Mdl
open Go Go.Abs

/-- The names that are always taken out, and those that nobody may take out. -/
def hopAlways : List (List UInt8) := [[67, 111, 110, 110, 101, 99, 116, 105, 111, 110], [75, 101, 101, 112, 45, 65, 108, 105, 118, 101], [80, 114, 111, 120, 121, 45, 67, 111, 110, 110, 101, 99, 116, 105, 111, 110], [84, 69], [84, 114, 97, 105, 108, 101, 114], [84, 114, 97, 110, 115, 102, 101, 114, 45, 69, 110, 99, 111, 100, 105, 110, 103], [85, 112, 103, 114, 97, 100, 101]]
def hopHeld : List (List UInt8) := [[72, 111, 115, 116], [67, 111, 110, 116, 101, 110, 116, 45, 76, 101, 110, 103, 116, 104], [86, 105, 97]]
def hopStays (w : List UInt8) : Bool := hopHeld.any fun s => foldS s w
def hopN (l : List Fld) : List (List UInt8) := hopAlways ++ (conW l).filter fun w => !hopStays w
def hopS (l : List Fld) : List Fld := withoutS l (hopN l)
theorem hopStays_iff {w : List UInt8} (h : lowerS w = w) : hopStays w = true ↔ (w = [104, 111, 115, 116] ∨ w = [99, 111, 110, 116, 101, 110, 116, 45, 108, 101, 110, 103, 116, 104] ∨ w = [118, 105, 97]) := by
  have e1 : lowerS [72, 111, 115, 116] = [104, 111, 115, 116] := by decide +kernel
  have e2 : lowerS [67, 111, 110, 116, 101, 110, 116, 45, 76, 101, 110, 103, 116, 104] = [99, 111, 110, 116, 101, 110, 116, 45, 108, 101, 110, 103, 116, 104] := by decide +kernel
  have e3 : lowerS [86, 105, 97] = [118, 105, 97] := by decide +kernel
  simp only [hopStays, hopHeld, List.any_cons, List.any_nil, Bool.or_false, Bool.or_eq_true, foldS, decide_eq_true_eq, e1, e2, e3, h]
  constructor
  · rintro (h | h | h) <;> simp [h]
  · rintro (h | h | h) <;> simp [h]
theorem isN_lower {names : List (List UInt8)} {f g : Fld} (h : lowerS f.1 = lowerS g.1) : isN names f = isN names g := by
  simp only [isN, foldS, h]
theorem isN_append (a b : List (List UInt8)) (f : Fld) : isN (a ++ b) f = (isN a f || isN b f) := by simp [isN]
theorem hopS_mem {l : List Fld} {f : Fld} : f ∈ hopS l ↔ f ∈ l ∧ isN (hopN l) f = false := by
  simp [hopS, withoutS, List.mem_filter]
/-- What is left has no field of a taken name. -/
theorem hopS_all {l : List Fld} {n : List UInt8} (h : isN (hopN l) (n, []) = true) : allS (hopS l) n = [] := by
  simp only [allS, List.map_eq_nil_iff, List.filter_eq_nil_iff]
  intro f hf
  have h2 := (hopS_mem.1 hf).2
  intro h3
  have h4 : lowerS n = lowerS f.1 := by
    have := isN_one n f
    rw [this] at h3
    simpa [foldS] using h3
  rw [isN_lower (g := f) (f := (n, [])) h4, h2] at h
  cases h
theorem hopN_always {l : List Fld} {f : Fld} (h : isN hopAlways f = true) : isN (hopN l) f = true := by
  rw [hopN, isN_append, h]; rfl
theorem hopW_strip (l : List Fld) : conW (hopS l) = [] := by
  have h : allS (hopS l) nmConnection = [] := hopS_all (hopN_always (by decide +kernel))
  simp only [conW, combS, h, joinS]
  decide +kernel
theorem hopN_strip (l : List Fld) : hopN (hopS l) = hopAlways := by simp [hopN, hopW_strip]
theorem hopS_idem (l : List Fld) : hopS (hopS l) = hopS l := by
  rw [hopS, hopN_strip, withoutS, List.filter_eq_self]
  intro f hf
  have h := (hopS_mem.1 hf).2
  rw [hopN, isN_append, Bool.or_eq_false_iff] at h
  rw [h.1]; rfl
/-- A field that is taken out has none of its name left. -/
theorem hopS_gone {l : List Fld} {f : Fld} (h : isN (hopN l) f = true) : allS (hopS l) f.1 = [] := hopS_all (by rw [← h]; exact isN_lower rfl)
theorem hopS_host (l : List Fld) (n : List UInt8) (h : isN (hopN l) (n, []) = false) : allS (hopS l) n = allS l n := by
  simp only [allS, hopS, withoutS, List.filter_filter]
  congr 1
  apply List.filter_congr
  intro f _
  cases hn : isN [n] f with
  | false => rfl
  | true =>
    have h4 : lowerS n = lowerS f.1 := by
      rw [isN_one] at hn
      simpa [foldS] using hn
    rw [Bool.true_and, ← isN_lower (names := hopN l) (f := (n, [])) (g := f) h4, h]; rfl
theorem isN_fold {names : List (List UInt8)} {f : Fld} {n : List UInt8} (hn : n ∈ names) (h : lowerS n = lowerS f.1) : isN names f = true :=
  List.any_eq_true.2 ⟨n, hn, by simp [foldS, h]⟩
theorem hopStays_fold {a b : List UInt8} (h : lowerS a = lowerS b) : hopStays a = hopStays b := by simp only [hopStays, foldS, h]
theorem hop_kept {l : List Fld} {f : Fld} (h : f ∈ hopS l) : (inL (conW l) (lowerS f.1) = true → hopStays f.1 = true) ∧ foldS f.1 [116, 101] = false ∧ foldS f.1 [117, 112, 103, 114, 97, 100, 101] = false := by
  have h2 := (hopS_mem.1 h).2
  have key : ∀ n ∈ hopAlways, lowerS n ≠ lowerS f.1 := fun n hn e => by
    rw [hopN_always (isN_fold hn e)] at h2; cases h2
  refine ⟨fun hw => ?_, ?_, ?_⟩
  · rw [inL_iff] at hw
    rw [← Bool.not_eq_false]
    intro hst
    have hl : lowerS (lowerS f.1) = lowerS f.1 := lowerS_lowerS _
    have hst2 : hopStays (lowerS f.1) = false := by rw [← hst]; exact hopStays_fold hl
    have hm : lowerS f.1 ∈ hopN l := by
      simp only [hopN, List.mem_append, List.mem_filter]
      exact .inr ⟨hw, by rw [hst2]; rfl⟩
    rw [isN_fold hm hl] at h2; cases h2
  · rw [foldS, decide_eq_false_iff_not]
    exact fun e => key [84, 69] (by simp [hopAlways]) (by rw [e]; decide +kernel)
  · rw [foldS, decide_eq_false_iff_not]
    exact fun e => key [85, 112, 103, 114, 97, 100, 101] (by simp [hopAlways]) (by rw [e]; decide +kernel)
theorem hop_host (l : List Fld) : allS (hopS l) [72, 111, 115, 116] = allS l [72, 111, 115, 116] := by
  apply hopS_host
  rw [hopN, isN_append, Bool.or_eq_false_iff]
  refine ⟨by decide +kernel, ?_⟩
  rw [isN, List.any_eq_false]
  intro w hw he
  simp only [List.mem_filter, Bool.not_eq_true'] at hw
  have h1 : hopStays w = true := by
    rw [foldS_comm] at he
    simp only [hopStays, hopHeld, List.any_cons, he, Bool.true_or]
  rw [hw.2] at h1; cases h1
/-- Where a field that is kept lies. -/
theorem without_at {l : List Fld} {i : Nat} (names : List (List UInt8)) (h : i < l.length) (hk : isN names (l.getD i ([], [])) = false) :
    (withoutS (l.take i) names).length < (withoutS l names).length ∧ (withoutS l names).getD (withoutS (l.take i) names).length ([], []) = l.getD i ([], []) := by
  have e : withoutS l names = withoutS (l.take i) names ++ (l.getD i ([], []) :: withoutS (l.drop (i + 1)) names) := by
    have e0 : l = l.take i ++ l.getD i ([], []) :: l.drop (i + 1) := by
      have := getD_of_lt (s := l) (d := ([], [])) h
      rw [List.getElem?_eq_getElem h] at this
      rw [← Option.some.inj this, ← List.drop_eq_getElem_cons h, List.take_append_drop]
    have e1 : ∀ m : List Fld, m = l.take i ++ l.getD i ([], []) :: l.drop (i + 1) → withoutS m names = withoutS (l.take i) names ++ (l.getD i ([], []) :: withoutS (l.drop (i + 1)) names) := by
      rintro m rfl
      simp only [withoutS, List.filter_append, List.filter_cons, hk]; rfl
    exact e1 l e0
  rw [e]
  refine ⟨by simp, ?_⟩
  simp [List.getD_eq_getElem?_getD, List.getElem?_append_right]
end Go.Mdl
