/- target: targets come back. No condition. -/
import Derived.Test.YtlkfjkimnkhelaaDoorTgtM
set_option linter.unusedVariables false
set_option linter.unusedSimpArgs false
namespace Go.Mdl
open Go Go.Abs
theorem tgt_ok {m s : List UInt8} (h : tgtErr m s = 0) : s ≠ [] ∧ tgtForm m s ≠ 0 := by
  unfold tgtErr at h
  split at h
  · cases h
  · rename_i h0
    split at h
    · cases h
    · rename_i h1; exact ⟨h0, h1⟩
theorem abs_split (s : List UInt8) : absAu s ++ absPa s = s.drop 7 := List.take_append_drop _ _
theorem see_iff (s : List UInt8) : tgtSee s = true ↔ s ≠ [] ∧ (∀ c ∈ s, visB c = true) ∧ 35 ∉ s := by
  simp only [tgtSee, visS, Bool.and_eq_true, Bool.not_eq_true', decide_eq_false_iff_not, List.all_eq_true, and_assoc]
theorem see_of_form {m s : List UInt8} (h : tgtForm m s ≠ 0) : tgtSee s = true := by
  cases e : tgtSee s with
  | true => rfl
  | false => exact absurd (form_no e) h
theorem sch_vis : ∀ c ∈ tgtSch, visB c = true := by decide +kernel
theorem sch_35 : 35 ∉ tgtSch := by decide
theorem sch_len : tgtSch.length = 7 := rfl
theorem con_opt : ¬ tgtOpt = tgtCon := by decide
/-- What the form tells. -/
theorem form_inv {m s : List UInt8} (h : tgtForm m s ≠ 0) :
    (tgtForm m s = 1 ∧ m ≠ tgtCon ∧ s.getD 0 0 = 47) ∨ (tgtForm m s = 2 ∧ m ≠ tgtCon ∧ s.getD 0 0 ≠ 47 ∧ s ≠ [42] ∧ absB s = true) ∨ (tgtForm m s = 3 ∧ m = tgtCon ∧ conB s = true) ∨ (tgtForm m s = 4 ∧ m = tgtOpt ∧ s = [42]) := by
  have hs := see_of_form h
  by_cases hm : m = tgtCon
  · subst hm
    rw [form_con hs] at h ⊢
    split
    · rename_i hc; exact .inr (.inr (.inl ⟨rfl, rfl, hc⟩))
    · rename_i hc; rw [if_neg hc] at h; exact absurd rfl h
  · by_cases h1 : s.getD 0 0 = 47
    · exact .inl ⟨form_org hs hm h1, hm, h1⟩
    · by_cases h2 : s = [42]
      · subst h2
        rw [form_ast hm] at h ⊢
        split
        · rename_i hc; exact .inr (.inr (.inr ⟨rfl, hc, rfl⟩))
        · rename_i hc; rw [if_neg hc] at h; exact absurd rfl h
      · rw [form_abs hs hm h1 h2] at h ⊢
        split
        · rename_i hc; exact .inr (.inl ⟨rfl, hm, h1, h2, hc⟩)
        · rename_i hc; rw [if_neg hc] at h; exact absurd rfl h
theorem err_of {m s : List UInt8} (h0 : s ≠ []) (h : tgtForm m s ≠ 0) : tgtErr m s = 0 := by rw [tgtErr, if_neg h0, if_neg h]
structure TgBack (m s t o : List UInt8) : Prop where
  form : tgtForm m t = tgtForm m s
  au : tgtAu m t = tgtAu m s
  pa : tgtPa m t = tgtPa m s
  err : tgtErr m t = 0
  con : m = tgtCon → o = s
  oerr : m ≠ tgtCon → tgtErr m o = 0
  otext : m ≠ tgtCon → tgtText (tgtForm m o) (tgtAu m o) (tgtPa m o) = o
  shape : m ≠ tgtCon → o = [42] ∨ (o ≠ [] ∧ o.getD 0 0 = 47)
  tlen : t.length ≤ s.length + 8
  olen : o.length ≤ s.length + 8
theorem text_of {m s : List UInt8} {f : Int} (h : tgtForm m s = f) : tgtText (tgtForm m s) (tgtAu m s) (tgtPa m s) = tgtText f (if f = 3 then s else if f = 2 then absAu s else []) (if f = 1 then s else if f = 2 then absPa s else []) := by
  rw [tgtAu, tgtPa, h]
/-- A text that begins with a slash, and may be a target, is one. -/
theorem slash_form {m o : List UInt8} (hm : m ≠ tgtCon) (hs : tgtSee o = true) (h : o.getD 0 0 = 47) : tgtErr m o = 0 ∧ tgtText (tgtForm m o) (tgtAu m o) (tgtPa m o) = o := by
  have e := form_org hs hm h
  exact ⟨err_of (see_ne hs) (by rw [e]; decide), by rw [text_of e]; rfl⟩
theorem tgt_back {m s : List UInt8} (h : tgtErr m s = 0) : TgBack m s (tgtText (tgtForm m s) (tgtAu m s) (tgtPa m s)) (tgtOut m (tgtForm m s) (tgtAu m s) (tgtPa m s)) := by
  obtain ⟨h0, hf⟩ := tgt_ok h
  have hs := see_of_form hf
  rcases form_inv hf with ⟨e, hm, h1⟩ | ⟨e, hm, h1, h2, h3⟩ | ⟨e, hm, h1⟩ | ⟨e, hm, h1⟩
  · have ht : tgtText (tgtForm m s) (tgtAu m s) (tgtPa m s) = s := by rw [text_of e]; rfl
    have ho : tgtOut m (tgtForm m s) (tgtAu m s) (tgtPa m s) = s := by rw [tgtOut, if_neg (by rw [e]; decide), ht]
    rw [ht, ho]
    exact ⟨rfl, rfl, rfl, h, fun g => absurd g hm, fun _ => h, fun _ => ht, fun _ => .inr ⟨h0, h1⟩, by omega, by omega⟩
  · have hb : absB0 s = true := by rw [absB, Bool.and_eq_true] at h3; exact h3.1
    have hl : 7 ≤ s.length := by rw [absB0, Bool.and_eq_true, decide_eq_true_eq] at hb; exact hb.1
    have hau : tgtAu m s = absAu s := by rw [tgtAu, e]; rfl
    have hpa : tgtPa m s = absPa s := by rw [tgtPa, e]; rfl
    have ht : tgtText (tgtForm m s) (tgtAu m s) (tgtPa m s) = tgtSch ++ s.drop 7 := by
      rw [e, hau, hpa, ← abs_split s, ← List.append_assoc]; rfl
    obtain ⟨s1, s2, s3⟩ := (see_iff s).1 hs
    have hdm : ∀ c ∈ s.drop 7, c ∈ s := fun c hc => List.drop_subset 7 s hc
    have hpm : ∀ c ∈ absPa s, c ∈ s := fun c hc => hdm c (by rw [← abs_split s]; exact List.mem_append_right _ hc)
    have hst : tgtSee (tgtSch ++ s.drop 7) = true := by
      refine (see_iff _).2 ⟨by simp [tgtSch], fun c hc => ?_, fun hc => ?_⟩
      · rcases List.mem_append.1 hc with hc | hc
        · exact sch_vis c hc
        · exact s2 c (hdm c hc)
      · rcases List.mem_append.1 hc with hc | hc
        · exact sch_35 hc
        · exact s3 (hdm _ hc)
    have hd : (tgtSch ++ s.drop 7).drop 7 = s.drop 7 := by
      rw [List.drop_append, List.drop_of_length_le (by rw [sch_len]; omega), sch_len]; rfl
    have htk : (tgtSch ++ s.drop 7).take 7 = tgtSch := by
      rw [List.take_append, List.take_of_length_le (by rw [sch_len]; omega), sch_len]; simp
    have hA : absAu (tgtSch ++ s.drop 7) = absAu s := by rw [absAu, absAu, hd]
    have hP : absPa (tgtSch ++ s.drop 7) = absPa s := by rw [absPa, absPa, hd]
    have hB : absB (tgtSch ++ s.drop 7) = true := by
      rw [absB, Bool.and_eq_true] at h3 ⊢
      refine ⟨?_, by rw [hA]; exact h3.2⟩
      rw [absB0, htk, foldS]
      simp [sch_len]
    have hf2 : tgtForm m (tgtSch ++ s.drop 7) = 2 := by
      rw [form_abs hst hm (by simp [tgtSch]) (by simp [tgtSch]), if_pos hB]
    have hol : (absPa s).length ≤ s.length := by
      have := congrArg List.length (abs_split s)
      rw [List.length_append, List.length_drop] at this; omega
    have htl : (tgtSch ++ s.drop 7).length ≤ s.length + 8 := by rw [List.length_append, List.length_drop, sch_len]; omega
    have out : ∀ o, o = tgtOut m (tgtForm m s) (tgtAu m s) (tgtPa m s) → tgtErr m o = 0 ∧ tgtText (tgtForm m o) (tgtAu m o) (tgtPa m o) = o ∧ (o = [42] ∨ (o ≠ [] ∧ o.getD 0 0 = 47)) ∧ o.length ≤ s.length + 8 := by
      intro o ho
      rw [tgtOut, if_pos e, hpa] at ho
      by_cases q : absPa s = [] ∧ m = tgtOpt
      · rw [if_pos q] at ho
        subst ho
        have e4 : tgtForm m [42] = 4 := by rw [form_ast hm, if_pos q.2]
        exact ⟨err_of (by simp) (by rw [e4]; decide), by rw [text_of e4]; rfl, .inl rfl, by simp⟩
      · rw [if_neg q] at ho
        by_cases q2 : (absPa s).getD 0 0 = 47
        · rw [if_pos q2] at ho
          subst ho
          have hne : absPa s ≠ [] := by intro g; rw [g] at q2; simp at q2
          obtain ⟨a, b⟩ := slash_form hm ((see_iff _).2 ⟨hne, fun c hc => s2 c (hpm c hc), fun hc => s3 (hpm _ hc)⟩) q2
          exact ⟨a, b, .inr ⟨hne, q2⟩, by omega⟩
        · rw [if_neg q2] at ho
          subst ho
          obtain ⟨a, b⟩ := slash_form (o := 47 :: absPa s) hm ((see_iff _).2 ⟨by simp, fun c hc => by
            rcases List.mem_cons.1 hc with rfl | hc
            · decide
            · exact s2 c (hpm c hc), fun hc => by
            rcases List.mem_cons.1 hc with hc | hc
            · cases hc
            · exact s3 (hpm _ hc)⟩) rfl
          exact ⟨a, b, .inr ⟨by simp, rfl⟩, by rw [List.length_cons]; omega⟩
    obtain ⟨o1, o2, o3, o4⟩ := out _ rfl
    rw [ht]
    exact ⟨by rw [hf2, e], by rw [hau, tgtAu, hf2]; exact hA, by rw [hpa, tgtPa, hf2]; exact hP, err_of (by simp [tgtSch]) (by rw [hf2]; decide), fun g => absurd g hm, fun _ => o1, fun _ => o2, fun _ => o3, htl, o4⟩
  · have ht : tgtText (tgtForm m s) (tgtAu m s) (tgtPa m s) = s := by rw [text_of e]; rfl
    have ho : tgtOut m (tgtForm m s) (tgtAu m s) (tgtPa m s) = s := by rw [tgtOut, if_neg (by rw [e]; decide), ht]
    rw [ht, ho]
    exact ⟨rfl, rfl, rfl, h, fun _ => rfl, fun g => absurd hm g, fun g => absurd hm g, fun g => absurd hm g, by omega, by omega⟩
  · have ht : tgtText (tgtForm m s) (tgtAu m s) (tgtPa m s) = s := by rw [text_of e, h1]; rfl
    have ho : tgtOut m (tgtForm m s) (tgtAu m s) (tgtPa m s) = s := by rw [tgtOut, if_neg (by rw [e]; decide), ht]
    rw [ht, ho]
    exact ⟨rfl, rfl, rfl, h, fun _ => rfl, fun _ => h, fun _ => ht, fun _ => .inl h1, by omega, by omega⟩
theorem tgt_none {m s : List UInt8} (h : tgtErr m s ≠ 0) : tgtForm m s = 0 ∧ tgtAu m s = [] ∧ tgtPa m s = [] := by
  have e : tgtForm m s = 0 := by
    by_cases h0 : s = []
    · subst h0; exact form_no rfl
    · rw [tgtErr, if_neg h0] at h
      by_cases h1 : tgtForm m s = 0
      · exact h1
      · rw [if_neg h1] at h; exact absurd rfl h
  exact ⟨e, by rw [tgtAu, e]; rfl, by rw [tgtPa, e]; rfl⟩
theorem tgt_len (m s : List UInt8) : (tgtAu m s).length ≤ s.length ∧ (tgtPa m s).length ≤ s.length := by
  have h := congrArg List.length (abs_split s)
  rw [List.length_append, List.length_drop] at h
  unfold tgtAu tgtPa
  refine ⟨?_, ?_⟩ <;> ((repeat' split) <;> (try simp only [List.length_nil]) <;> omega)
end Go.Mdl
