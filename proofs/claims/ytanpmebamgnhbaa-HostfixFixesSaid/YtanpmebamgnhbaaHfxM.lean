/- hostfix: what is computed. No condition. -/
import Derived.Test.YtanpmebamgnhbaaHdrM
import Derived.Test.YtanpmebamgnhbaaHostM
set_option linter.unusedVariables false
set_option linter.unusedSimpArgs false
namespace Go.Mdl
open Go Go.Abs

def nmHost : List UInt8 := [72, 111, 115, 116]
def hfPlace (l : List Fld) (form : Int) (auth authority : List UInt8) : List UInt8 := if form = 2 then auth else if hasF l nmHost = true then getS l nmHost else authority
def hfBad (s : List UInt8) (ver : Int) : Bool := decide (0 < ver) && !decide (hostErr s = 0)
def hfFix (l : List Fld) (s : List UInt8) (ver : Int) : List Fld := if hfBad s ver = true then [] else if s = [] then withoutS l [nmHost] else setS l nmHost s
def hfErr (s : List UInt8) (ver : Int) : Int := if hfBad s ver = true then 13 else 0

theorem isN_name {n : List UInt8} {f g : Fld} (h : f.1 = g.1) : isN [n] f = isN [n] g := by simp only [isN, h]
theorem isN_low {a b : List UInt8} (h : lowerS a = lowerS b) : isN [a] = isN [b] := by
  funext f; simp [isN, foldS, h]
theorem parts_of {l : List Fld} {n : List UInt8} (h : hasF l n = true) : l.findIdx (isN [n]) < l.length ∧ l = l.take (l.findIdx (isN [n])) ++ l.getD (l.findIdx (isN [n])) ([], []) :: l.drop (l.findIdx (isN [n]) + 1) ∧
    (l.take (l.findIdx (isN [n]))).filter (isN [n]) = [] ∧ isN [n] (l.getD (l.findIdx (isN [n])) ([], [])) = true := by
  have hx : l.findIdx (isN [n]) < l.length := List.findIdx_lt_length.2 (List.any_eq_true.1 h)
  have hg := getD_of_lt (s := l) (d := ([], [])) hx
  have hge : l[l.findIdx (isN [n])] = l.getD (l.findIdx (isN [n])) ([], []) := by
    rw [List.getElem?_eq_getElem hx] at hg; exact Option.some.inj hg
  refine ⟨hx, ?_, ?_, ?_⟩
  · conv => lhs; rw [← List.take_append_drop (l.findIdx (isN [n])) l]
    rw [List.drop_eq_getElem_cons hx, hge]
  · rw [List.filter_eq_nil_iff]
    intro f hf
    obtain ⟨j, hj, he⟩ := List.mem_take_iff_getElem.1 hf
    have := List.not_of_lt_findIdx (p := isN [n]) (xs := l) (i := j) (by omega)
    rw [← he, this]; simp
  · rw [← hge]; exact List.findIdx_getElem
theorem without_none (l : List Fld) (n : List UInt8) : (withoutS l [n]).filter (isN [n]) = [] := by
  simp only [withoutS, List.filter_filter, List.filter_eq_nil_iff]
  intro f _
  cases isN [n] f <;> simp
theorem without_twice (l : List Fld) (n : List UInt8) : withoutS (withoutS l [n]) [n] = withoutS l [n] := by
  simp only [withoutS, List.filter_filter, Bool.and_self]
theorem none_of {l : List Fld} {n : List UInt8} (h : hasF l n = false) : l.filter (isN [n]) = [] := by
  rw [List.filter_eq_nil_iff]
  exact fun f hf => List.any_eq_false.1 h f hf
theorem isN_self (n v : List UInt8) : isN [n] (n, v) = true := by simp [isN, foldS]
/-- What is set is there once. -/
theorem set_all (l : List Fld) (n v : List UInt8) : allS (setS l n v) n = [v] := by
  unfold setS
  split
  · rename_i h
    obtain ⟨h1, h2, h3, h4⟩ := parts_of h
    generalize l.findIdx (isN [n]) = i at *
    have h5 : isN [n] ((l.getD i ([], [])).1, v) = true := by rw [← h4]; exact isN_name rfl
    simp only [allS, List.filter_append, h3, List.filter_cons_of_pos h5, without_none]; rfl
  · rename_i h
    simp only [allS, withS, List.filter_append, none_of (Bool.eq_false_iff.2 h), List.filter_cons_of_pos (isN_self n v)]; rfl
/-- Other fields stay. -/
theorem set_without (l : List Fld) (n v : List UInt8) : withoutS (setS l n v) [n] = withoutS l [n] := by
  unfold setS
  split
  · rename_i h
    obtain ⟨h1, h2, h3, h4⟩ := parts_of h
    have e : ∀ m : List Fld, m = l.take (l.findIdx (isN [n])) ++ l.getD (l.findIdx (isN [n])) ([], []) :: l.drop (l.findIdx (isN [n]) + 1) → withoutS m [n] = withoutS (l.take (l.findIdx (isN [n]))) [n] ++ withoutS (l.drop (l.findIdx (isN [n]) + 1)) [n] := by
      rintro m rfl
      simp only [withoutS, List.filter_append, List.filter_cons, h4]; rfl
    rw [e l h2]
    generalize l.findIdx (isN [n]) = i at *
    have h5 : isN [n] ((l.getD i ([], [])).1, v) = true := by rw [← h4]; exact isN_name rfl
    have h6 := without_twice (l.drop (i + 1)) n
    simp only [withoutS, List.filter_append, List.filter_cons, h5] at h6 ⊢
    rw [h6]; rfl
  · simp only [withS, withoutS, List.filter_append, List.filter_cons, isN_self]
    simp
theorem set_has (l : List Fld) (n v : List UInt8) : hasF (setS l n v) n = true := by
  rw [hasF_iff, set_all]; simp
theorem allS_low {a b : List UInt8} (h : lowerS a = lowerS b) (l : List Fld) : allS l a = allS l b := by simp only [allS, isN_low h]
theorem withoutS_low {a b : List UInt8} (h : lowerS a = lowerS b) (l : List Fld) : withoutS l [a] = withoutS l [b] := by simp only [withoutS, isN_low h]
theorem setS_len (l : List Fld) (n v : List UInt8) : (setS l n v).length ≤ l.length + 1 := by
  unfold setS
  split
  · have := List.length_filter_le (fun f => !isN [n] f) (l.drop (l.findIdx (isN [n]) + 1))
    simp only [List.length_append, List.length_cons, List.length_take, withoutS, List.length_drop] at this ⊢
    omega
  · simp [withS]
theorem hf_get (l : List Fld) (s : List UInt8) : getS (setS l nmHost s) [104, 111, 115, 116] = s := by
  unfold getS
  rw [allS_low (a := [104, 111, 115, 116]) (b := nmHost) (by decide +kernel), set_all]; rfl
theorem hf_without (l : List Fld) (s : List UInt8) : withoutS (setS l nmHost s) [[104, 111, 115, 116]] = withoutS l [[104, 111, 115, 116]] := by
  rw [withoutS_low (a := [104, 111, 115, 116]) (b := nmHost) (by decide +kernel), withoutS_low (a := [104, 111, 115, 116]) (b := nmHost) (by decide +kernel), set_without]
theorem host_empty : hostErr [] ≠ 0 := by decide +kernel
theorem hfFix_ok {l : List Fld} {s : List UInt8} (h : hfErr s 1 = 0) : hostErr s = 0 ∧ hfFix l s 1 = setS l nmHost s := by
  have hb : hfBad s 1 = false := by
    rw [← Bool.not_eq_true]; intro hb; rw [hfErr, if_pos hb] at h; cases h
  have he : hostErr s = 0 := by simpa [hfBad] using hb
  have hs : s ≠ [] := fun e => by rw [e] at he; exact host_empty he
  refine ⟨he, ?_⟩
  rw [hfFix, if_neg (by rw [hb]; simp), if_neg hs]
theorem hfFix_bad {l : List Fld} {s : List UInt8} (h : ¬ hfErr s 1 = 0) : hfFix l s 1 = [] ∧ hostKey s = [] := by
  have hb : hfBad s 1 = true := by
    rw [← Bool.not_eq_false]; intro hb; exact h (by rw [hfErr, hb]; rfl)
  have he : hostErr s ≠ 0 := by simpa [hfBad] using hb
  refine ⟨by rw [hfFix, if_pos hb], by rw [hostKey, if_neg he]⟩
theorem hfFix_len (l : List Fld) (s : List UInt8) (ver : Int) : (hfFix l s ver).length ≤ l.length + 1 := by
  unfold hfFix
  split
  · simp
  · split
    · have := without_len l [nmHost]; omega
    · exact setS_len l nmHost s
theorem hfPlace_len {l : List Fld} {fo : Int} {a au : List UInt8} {m : Nat} (h1 : ∀ f ∈ l, f.2.length ≤ m) (h2 : a.length ≤ m) (h3 : au.length ≤ m) : (hfPlace l fo a au).length ≤ m := by
  unfold hfPlace
  split
  · exact h2
  · split
    · unfold getS
      cases h : allS l nmHost with
      | nil => simp
      | cons x r =>
        have : x ∈ allS l nmHost := by rw [h]; simp
        obtain ⟨f, hf, rfl, _⟩ := allS_mem this
        exact h1 f hf
    · exact h3
theorem hfFix_mem {l : List Fld} {s : List UInt8} {ver : Int} {m : Nat} (h1 : ∀ f ∈ l, f.1.length ≤ m ∧ f.2.length ≤ m) (h2 : s.length ≤ m) (hm : 4 ≤ m) : ∀ f ∈ hfFix l s ver, f.1.length ≤ m ∧ f.2.length ≤ m := by
  unfold hfFix
  split
  · simp
  · split
    · intro f hf
      simp only [withoutS, List.mem_filter] at hf
      exact h1 f hf.1
    · intro f hf
      unfold setS at hf
      split at hf
      · rename_i hh
        obtain ⟨g1, g2, g3, g4⟩ := parts_of hh
        rcases List.mem_append.1 hf with hf | hf
        · exact h1 f (List.mem_of_mem_take hf)
        · rcases List.mem_cons.1 hf with rfl | hf
          · exact ⟨(h1 _ (List.mem_of_getElem? (getD_of_lt (s := l) (d := ([], [])) g1))).1, h2⟩
          · simp only [withoutS, List.mem_filter] at hf
            exact h1 f (List.mem_of_mem_drop hf.1)
      · simp only [withS, List.mem_append, List.mem_singleton] at hf
        rcases hf with hf | rfl
        · exact h1 f hf
        · exact ⟨hm, h2⟩
end Go.Mdl
