/- target: what is computed. No condition. -/
import Derived.Test.YtlkfjkimnkhelaaDoorHostB
import Derived.Test.YtlkfjkimnkhelaaDoorTrm
set_option linter.unusedVariables false
set_option linter.unusedSimpArgs false
namespace Go.Mdl
open Go Go.Abs

def tgtSch : List UInt8 := [104, 116, 116, 112, 58, 47, 47]
def tgtCon : List UInt8 := [67, 79, 78, 78, 69, 67, 84]
def tgtOpt : List UInt8 := [79, 80, 84, 73, 79, 78, 83]
def tgtDigs : List UInt8 := [48, 49, 50, 51, 52, 53, 54, 55, 56, 57]
/-- May a text be a target at all? -/
def tgtSee (s : List UInt8) : Bool := visS s && !decide (35 ∈ s)
def hostedB (s : List UInt8) : Bool := decide (hostErr s = 0)
def conB (s : List UInt8) : Bool := hostedB s && !decide (nameLen s = s.length)
def stopB (c : UInt8) : Bool := decide (c = 47) || decide (c = 63)
/-- How many octets the authority has. -/
def absN (r : List UInt8) : Nat := spanL (fun c => !stopB c) r
def absAu (s : List UInt8) : List UInt8 := (s.drop 7).take (absN (s.drop 7))
def absPa (s : List UInt8) : List UInt8 := (s.drop 7).drop (absN (s.drop 7))
/-- Does a text begin with the scheme? -/
def absB0 (s : List UInt8) : Bool := decide (7 ≤ s.length) && foldS (s.take 7) tgtSch
def absB (s : List UInt8) : Bool := absB0 s && hostedB (absAu s)
/-- The form of a target; 0: it may not be. -/
def tgtForm (m s : List UInt8) : Int :=
  if tgtSee s = false then 0
  else if m = tgtCon then (if conB s = true then 3 else 0)
  else if s.getD 0 0 = 47 then 1
  else if s = [42] then (if m = tgtOpt then 4 else 0)
  else if absB s = true then 2 else 0
def tgtErr (m s : List UInt8) : Int := if s = [] then 2 else if tgtForm m s = 0 then 11 else 0
def tgtAu (m s : List UInt8) : List UInt8 := if tgtForm m s = 3 then s else if tgtForm m s = 2 then absAu s else []
def tgtPa (m s : List UInt8) : List UInt8 := if tgtForm m s = 1 then s else if tgtForm m s = 2 then absPa s else []
def tgtText (f : Int) (a p : List UInt8) : List UInt8 :=
  if f = 1 then p else if f = 2 then tgtSch ++ a ++ p else if f = 3 then a else if f = 4 then [42] else []
def tgtOut (m : List UInt8) (f : Int) (a p : List UInt8) : List UInt8 :=
  if f = 2 then (if p = [] ∧ m = tgtOpt then [42] else if p.getD 0 0 = 47 then p else 47 :: p) else tgtText f a p

/-! ### CONNECT -/
theorem cutR_mid {p : UInt8 → Bool} {a b : List UInt8} {c : UInt8} (hc : p c = false) (hb : b.all p = true) : cutR p (a ++ c :: b) = a ++ [c] := by
  have e : (a ++ c :: b).reverse = b.reverse ++ c :: a.reverse := by simp
  rw [cutR, e, List.dropWhile_append_of_pos (by
    intro x hx
    exact List.all_eq_true.1 hb x (List.mem_reverse.1 hx)), List.dropWhile_cons_of_neg (by rw [hc]; simp)]
  simp
theorem cutR_mem {p : UInt8 → Bool} {s : List UInt8} {c : UInt8} (h : c ∈ cutR p s) : c ∈ s := by
  rw [cutR, List.mem_reverse] at h
  exact List.mem_reverse.1 ((List.dropWhile_suffix p).subset h)
def lastD (s : List UInt8) : Bool := decide (48 ≤ (s.getD (s.length - 1) 0).toNat) && decide ((s.getD (s.length - 1) 0).toNat ≤ 57)
theorem dig_set (c : UInt8) : decide (c ∈ tgtDigs) = isDig 10 c := by
  revert c; exact u8_forall (by decide +kernel)
theorem dig_last (c : UInt8) : (decide (48 ≤ c.toNat) && decide (c.toNat ≤ 57)) = isDig 10 c := by
  revert c; exact u8_forall (by decide +kernel)
theorem dig_set' : (fun c => decide (c ∈ tgtDigs)) = isDig 10 := funext dig_set
theorem suffix_col (s : List UInt8) : [58].isSuffixOf s = decide (0 < s.length ∧ s.getD (s.length - 1) 0 = 58) := by
  rw [Bool.eq_iff_iff, List.isSuffixOf_iff_suffix, decide_eq_true_eq]
  constructor
  · rintro ⟨t, rfl⟩
    simp
  · rintro ⟨h, e⟩
    have hne : s ≠ [] := List.ne_nil_of_length_pos h
    refine ⟨s.dropLast, ?_⟩
    have := List.dropLast_concat_getLast hne
    rw [getD_last hne, e] at this
    exact this
theorem con_eq (s : List UInt8) : (lastD s && ([58].isSuffixOf (cutR (fun c => decide (c ∈ tgtDigs)) s) && hostedB s)) = conB s := by
  rw [dig_set', conB]
  cases hh : hostedB s with
  | false => simp
  | true =>
    rw [Bool.and_true, Bool.true_and]
    have h0 : hostErr s = 0 := by simpa [hostedB] using hh
    have hne : s ≠ [] := by rintro rfl; simp [hostErr] at h0
    have hn : nameS (cutName s) = true := by
      cases e : nameS (cutName s) with
      | true => rfl
      | false => rw [hostErr, if_neg hne, if_pos e] at h0; cases h0
    rcases cut_len hn with ⟨h1, h2⟩ | ⟨h1, h2, h3⟩
    · rw [decide_eq_true h2]
      simp only [Bool.not_true, Bool.and_eq_false_iff]
      rw [(cut_no h1).1] at hn
      simp only [nameS, Bool.or_eq_true] at hn
      rcases hn with hn | hn
      · right
        simp only [regS, Bool.and_eq_true] at hn
        have hm : (58 : UInt8) ∉ s := reg_mem (by decide) (by decide) (by decide) hn.2
        rw [suffix_col, decide_eq_false_iff_not]
        rintro ⟨g1, g2⟩
        apply hm
        apply cutR_mem (p := isDig 10)
        rw [← g2]
        exact List.mem_of_getElem? (getD_of_lt (s := cutR (isDig 10) s) (d := 0) (by omega))
      · left
        obtain ⟨m, _, _, rfl⟩ := lit_form.1 hn
        simp [lastD]
    · have hp : numErr 10 65535 (cutPort s) = 0 := by
        rw [hostErr, if_neg hne, if_neg (by rw [hn]; simp), if_neg (by rw [h1]; simp)] at h0
        split at h0
        · assumption
        · split at h0 <;> cases h0
      have hpn : cutPort s ≠ [] := by intro e; rw [e] at hp; simp [numErr] at hp
      have hpd : (cutPort s).all (isDig 10) = true := by
        cases e : (cutPort s).all (isDig 10) with
        | true => rfl
        | false => rw [num_form (by rw [e]; simp)] at hp; cases hp
      have hlt : nameLen s < s.length := by
        rw [h2]
        conv => rhs; rw [h3]
        simp
      rw [decide_eq_false (by omega), Bool.not_false]
      have hlast : lastD s = true := by
        have e := dig_last (s.getD (s.length - 1) 0)
        rw [lastD, e]
        have hm : s.getD (s.length - 1) 0 ∈ cutPort s := by
          have hpl := List.length_pos_iff.2 hpn
          have e1 : s.getD (s.length - 1) 0 = (cutPort s).getD ((cutPort s).length - 1) 0 := by
            have e2 : s = (cutName s ++ [58]) ++ cutPort s := by rw [List.append_assoc]; exact h3
            have hl : s.length = (cutName s).length + 1 + (cutPort s).length := by
              conv => lhs; rw [e2]
              simp; omega
            conv => lhs; rw [e2]
            rw [getD_append_ge 0 (by simp; omega)]
            congr 1
            simp; omega
          rw [e1]
          exact List.mem_of_getElem? (getD_of_lt (s := cutPort s) (d := 0) (by omega))
        exact List.all_eq_true.1 hpd _ hm
      have hcut : cutR (isDig 10) s = cutName s ++ [58] := by
        conv => lhs; rw [h3]
        exact cutR_mid (by decide) hpd
      rw [hlast, hcut, suffix_col]
      simp

theorem upTo_mem {c : UInt8} : ∀ {s : List UInt8}, upTo c s < s.length ↔ c ∈ s
  | [] => by simp [upTo]
  | b :: l => by
    by_cases h : b = c
    · subst h; simp [upTo]
    · have := upTo_mem (c := c) (s := l)
      simp only [upTo, if_neg h, List.length_cons, List.mem_cons, Nat.add_lt_add_iff_right, this]
      exact ⟨.inr, fun g => g.resolve_left (fun e => h e.symm)⟩
theorem idxB_mem (c : UInt8) (s : List UInt8) : decide (0 ≤ idxB c s) = decide (c ∈ s) := by
  apply decide_eq_decide.2
  unfold idxB
  by_cases h : upTo c s < s.length
  · rw [if_pos h]; exact ⟨fun _ => upTo_mem.1 h, fun _ => by omega⟩
  · rw [if_neg h]; exact ⟨fun g => by omega, fun g => absurd (upTo_mem.2 g) h⟩
theorem idxB_neg (c : UInt8) (s : List UInt8) : idxB c s < 0 ↔ c ∉ s := by
  have := idxB_mem c s
  rw [decide_eq_decide] at this
  rw [← this]; omega
/-- The answer, by its form. -/
def tgAV (f : Int) (s : List UInt8) : AV := .agg [.int .i64 f, .str (if f = 3 then s else if f = 2 then absAu s else []), .str (if f = 1 then s else if f = 2 then absPa s else [])]
theorem tg_ok {m s : List UInt8} {f : Int} (h0 : s ≠ []) (h : tgtForm m s = f) : (AV.agg [.int .i64 (tgtForm m s), .str (tgtAu m s), .str (tgtPa m s)] = tgAV f s) ∧ tgtErr m s = if f = 0 then 11 else 0 := by
  rw [tgtAu, tgtPa, tgtErr, h, if_neg h0]; exact ⟨rfl, rfl⟩
theorem form_no {m s : List UInt8} (h : tgtSee s = false) : tgtForm m s = 0 := by rw [tgtForm, if_pos h]
theorem form_con {s : List UInt8} (h : tgtSee s = true) : tgtForm tgtCon s = if conB s = true then 3 else 0 := by rw [tgtForm, if_neg (by rw [h]; simp), if_pos rfl]
theorem form_org {m s : List UInt8} (h : tgtSee s = true) (h1 : ¬ m = tgtCon) (h2 : s.getD 0 0 = 47) : tgtForm m s = 1 := by rw [tgtForm, if_neg (by rw [h]; simp), if_neg h1, if_pos h2]
theorem form_ast {m : List UInt8} (h1 : ¬ m = tgtCon) : tgtForm m [42] = if m = tgtOpt then 4 else 0 := by
  rw [tgtForm, if_neg (by decide +kernel), if_neg h1, if_neg (by decide), if_pos rfl]
theorem form_abs {m s : List UInt8} (h : tgtSee s = true) (h1 : ¬ m = tgtCon) (h2 : ¬ s.getD 0 0 = 47) (h3 : ¬ s = [42]) : tgtForm m s = if absB s = true then 2 else 0 := by
  rw [tgtForm, if_neg (by rw [h]; simp), if_neg h1, if_neg h2, if_neg h3]

/-! ### what comes back -/
theorem see_ne {s : List UInt8} (h : tgtSee s = true) : s ≠ [] := by
  rintro rfl; simp [tgtSee, visS] at h
theorem form_cases (m s : List UInt8) : tgtForm m s = 0 ∨ tgtForm m s = 1 ∨ tgtForm m s = 2 ∨ tgtForm m s = 3 ∨ tgtForm m s = 4 := by
  unfold tgtForm
  (repeat' split) <;> simp
end Go.Mdl
