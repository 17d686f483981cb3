/- coding: what is computed. No condition. -/
import Derived.Test.YtanpmebamgnhbaaHdrM
import Derived.Test.YtanpmebamgnhbaaConM
import Derived.Test.YtanpmebamgnhbaaParL
set_option linter.unusedVariables false
set_option linter.unusedSimpArgs false
namespace Go.Mdl
open Go Go.Abs

def nmTE : List UInt8 := [84, 114, 97, 110, 115, 102, 101, 114, 45, 69, 110, 99, 111, 100, 105, 110, 103]
def wdChunked : List UInt8 := [99, 104, 117, 110, 107, 101, 100]
def wdTrailers : List UInt8 := [116, 114, 97, 105, 108, 101, 114, 115]
def isChk (e : List UInt8) : Bool := decide (parsName e = wdChunked)
def goodE (e : List UInt8) : Bool := decide (parsErr e = 0)
/-- Do elements say chunks, once and last? -/
def codGood (w : List (List UInt8)) : Bool := w.all goodE && (decide (w.countP isChk = 1) && (isChk (w.getD (w.length - 1) []) && decide (parsList (w.getD (w.length - 1) []) = [])))
def codOk (s : List UInt8) : Bool := endsS s && codGood (splitS s)
def codB (l : List Fld) : Bool := hasF l nmTE && (codOk (combS l nmTE) && decide ((splitS (combS l nmTE)).length ≤ 1))
def codE (l : List Fld) : Int := if hasF l nmTE = true then (if codOk (combS l nmTE) = true then (if (splitS (combS l nmTE)).length ≤ 1 then 0 else 15) else 14) else 0
def trailB (l : List Fld) : Bool := (splitS (combS l [84, 69])).any fun e => decide (parsName e = wdTrailers)

theorem countP_take_succ {p : List UInt8 → Bool} {l : List (List UInt8)} {k : Nat} (h : k < l.length) : (l.take (k + 1)).countP p = (l.take k).countP p + if p (l.getD k []) = true then 1 else 0 := by
  rw [take_succ_getD [] h, List.countP_append]
  simp [List.countP_cons]
/-- The document's way: one by one. -/
def refElem (w : List (List UInt8)) (i : Nat) : Bool := goodE (w.getD i []) && (decide (decide (i + 1 = w.length) = isChk (w.getD i [])) && (!decide (i + 1 = w.length) || decide (parsList (w.getD i []) = [])))
theorem countP_zero_iff {p : List UInt8 → Bool} {l : List (List UInt8)} : l.countP p = 0 ↔ ∀ i, i < l.length → p (l.getD i []) = false := by
  rw [List.countP_eq_zero]
  constructor
  · intro h i hi
    have := h _ (List.mem_of_getElem? (getD_of_lt (s := l) (d := []) hi))
    simpa using this
  · intro h a ha
    obtain ⟨i, hi, he⟩ := List.getElem_of_mem ha
    have := h i hi
    have hg : l.getD i [] = a := by simp [List.getD_eq_getElem?_getD, List.getElem?_eq_getElem hi, he]
    rw [hg] at this; rw [this]; simp
theorem codGood_iff (w : List (List UInt8)) : codGood w = true ↔ (w ≠ [] ∧ ∀ i, i < w.length → refElem w i = true) := by
  rcases Nat.eq_zero_or_pos w.length with h0 | hpos
  · have : w = [] := List.length_eq_zero_iff.1 h0
    subst this
    simp [codGood]
  have hne : w ≠ [] := fun h => by subst h; simp at hpos
  have hw : w.take (w.length - 1 + 1) = w := by rw [show w.length - 1 + 1 = w.length by omega, List.take_length]
  have hc := countP_take_succ (p := isChk) (l := w) (k := w.length - 1) (by omega)
  rw [hw] at hc
  have htk : ∀ i, i < w.length - 1 → (w.take (w.length - 1)).getD i [] = w.getD i [] := fun i hi => by
    simp only [List.getD_eq_getElem?_getD, List.getElem?_take, if_pos hi]
  have hl : (w.take (w.length - 1)).length = w.length - 1 := by rw [List.length_take]; omega
  simp only [codGood, Bool.and_eq_true, decide_eq_true_eq, hc]
  constructor
  · rintro ⟨h1, h2, h3, h4⟩
    rw [h3] at h2
    have hz : (w.take (w.length - 1)).countP isChk = 0 := by
      rw [if_pos rfl] at h2; omega
    rw [countP_zero_iff] at hz
    refine ⟨hne, fun i hi => ?_⟩
    have hg : goodE (w.getD i []) = true := List.all_eq_true.1 h1 _ (List.mem_of_getElem? (getD_of_lt (s := w) (d := []) hi))
    simp only [refElem, hg, Bool.true_and, Bool.and_eq_true, decide_eq_true_eq, Bool.or_eq_true, Bool.not_eq_true', decide_eq_false_iff_not]
    by_cases hi2 : i + 1 = w.length
    · obtain rfl : i = w.length - 1 := by omega
      exact ⟨by rw [h3]; simp; omega, .inr h4⟩
    · have := hz i (by rw [hl]; omega)
      rw [htk i (by omega)] at this
      exact ⟨by rw [this]; simp [hi2], .inl hi2⟩
  · rintro ⟨_, h⟩
    have hlast := h (w.length - 1) (by omega)
    have hll : w.length - 1 + 1 = w.length := by omega
    simp only [refElem, hll, decide_true, Bool.and_eq_true, decide_eq_true_eq, Bool.or_eq_true, Bool.not_true, Bool.false_eq_true, false_or] at hlast
    obtain ⟨g1, g2, g3⟩ := hlast
    refine ⟨?_, ?_, g2.symm, g3⟩
    · rw [List.all_eq_true]
      intro a ha
      obtain ⟨i, hi, he⟩ := List.getElem_of_mem ha
      have := h i hi
      have hg : w.getD i [] = a := by simp [List.getD_eq_getElem?_getD, List.getElem?_eq_getElem hi, he]
      simp only [refElem, hg, Bool.and_eq_true] at this
      exact this.1
    · rw [← g2, if_pos rfl]
      have hz : (w.take (w.length - 1)).countP isChk = 0 := by
        rw [countP_zero_iff]
        intro i hi
        rw [hl] at hi
        have := h i (by omega)
        rw [htk i hi]
        have hi2 : ¬ i + 1 = w.length := by omega
        simp only [refElem, hi2, decide_false, Bool.and_eq_true, decide_eq_true_eq] at this
        exact this.2.1.symm
      omega

/-! ### a field more -/
theorem joinS_append : ∀ {a b : List (List UInt8)}, a ≠ [] → b ≠ [] → joinS (a ++ b) = joinS a ++ 44 :: 32 :: joinS b
  | [], b, h, _ => absurd rfl h
  | [x], [], _, h => absurd rfl h
  | [x], b :: r, _, _ => rfl
  | x :: y :: a, b, _, h => by
    have := joinS_append (a := y :: a) (b := b) (by simp) h
    show x ++ 44 :: 32 :: joinS ((y :: a) ++ b) = _
    rw [this]; simp [joinS]
/-- An element that begins with an octet that is no blank is kept. -/
theorem elemsGo_head : ∀ (x : Scan) (cur l : List UInt8), ∃ t r, elemsGo x cur l = (cur ++ t) :: r
  | x, cur, [] => ⟨[], [], by simp [elemsGo]⟩
  | x, cur, c :: l => by
    rw [elemsGo_cons]
    split
    · exact ⟨[], _, by rw [List.append_nil]⟩
    · obtain ⟨t, r, h⟩ := elemsGo_head (x.see c) (cur ++ [c]) l
      exact ⟨c :: t, r, by rw [h]; simp⟩
theorem trim_head {c : UInt8} {t : List UInt8} (h : blankB c = false) : trimS (c :: t) ≠ [] := by
  intro he
  obtain ⟨a, b, h1, h2, h3⟩ := trim_parts (c :: t)
  rw [he, List.nil_append] at h1
  have : c ∈ a ++ b := by rw [← h1]; simp
  rcases List.mem_append.1 this with h4 | h4
  · have := List.all_eq_true.1 h2 c h4; rw [h] at this; cases this
  · have := List.all_eq_true.1 h3 c h4; rw [h] at this; cases this
theorem split_lead (s : List UInt8) : endsS (32 :: s) = endsS s ∧ splitS (32 :: s) = splitS s := by
  have h32 : scan0.see 32 = scan0 := see_top (by decide) (by decide)
  have he : endsS (32 :: s) = endsS s := by unfold endsS; rw [Scan.run_cons, h32]
  refine ⟨he, ?_⟩
  unfold splitS
  rw [he]
  split
  · unfold elemsS
    rw [elemsGo_cons, if_neg (fun e => absurd e.1 (by decide)), h32]
    exact keep_lead (c := 32) (by decide)
  · rfl
theorem split_some {c : UInt8} {w : List UInt8} (hb : blankB c = false) (h1 : c ≠ 34) (h2 : c ≠ 40) (h3 : c ≠ 44) (he : endsS (c :: w) = true) : splitS (c :: w) ≠ [] := by
  unfold splitS
  rw [if_pos he, elemsS, elemsGo_cons, if_neg (fun e => h3 e.1)]
  obtain ⟨t, r, h⟩ := elemsGo_head (scan0.see c) ([] ++ [c]) w
  rw [h]
  have e1 : ∀ (a : List UInt8) (t : List (List UInt8)), keepE (a :: t) = keepE [a] ++ keepE t := fun a t => keepE_append [a] t
  rw [e1, keepE_one]
  have : trimS (([] ++ [c]) ++ t) ≠ [] := trim_head (t := t) hb
  rw [if_neg this]
  simp
theorem tok_pars {s : List UInt8} (h : tokenS s = true) : parsErr s = 0 ∧ parsName s = lowerS s ∧ parsList s = [] := by
  have hm : parsMay s [] = true := by simp [parsMay, h]
  have ht : parsText s [] = s := by simp [parsText, hm, textGo]
  have := print_parse hm
  rw [ht] at this
  exact this
/-- One coding, chunks. -/
theorem cod_one {s : List UInt8} (h : codOk s = true) (hl : (splitS s).length ≤ 1) : endsS s = true ∧ ∃ c, splitS s = [c] ∧ goodE c = true ∧ isChk c = true ∧ parsList c = [] := by
  simp only [codOk, Bool.and_eq_true] at h
  refine ⟨h.1, ?_⟩
  have hg := h.2
  have hne := ((codGood_iff _).1 hg).1
  generalize splitS s = w at *
  match w, hl, hne with
  | [c], _, _ =>
    simp only [codGood, List.all_cons, List.all_nil, Bool.and_true, Bool.and_eq_true, decide_eq_true_eq] at hg
    exact ⟨c, rfl, hg.1, hg.2.2.1, hg.2.2.2⟩
theorem cod_more {l : List Fld} (w : List UInt8) (h1 : hasF l nmTE = true) (h2 : codOk (combS l nmTE) = true) (h3 : (splitS (combS l nmTE)).length ≤ 1) :
    codB (withS l nmTE (120 :: w)) = false ∧ codE (withS l nmTE (120 :: w)) = 14 := by
  have hA := allS_with l nmTE (120 :: w) nmTE rfl
  have hne : allS l nmTE ≠ [] := by
    rw [hasF_iff] at h1; simpa using h1
  have hhas : hasF (withS l nmTE (120 :: w)) nmTE = true := by rw [hasF_iff, hA]; simp
  have hc : combS (withS l nmTE (120 :: w)) nmTE = combS l nmTE ++ 44 :: (32 :: 120 :: w) := by
    rw [combS, hA, joinS_snoc, if_neg hne]; rfl
  obtain ⟨g1, c, g2, g3, g4, g5⟩ := cod_one h2 h3
  have hbad : codOk (combS (withS l nmTE (120 :: w)) nmTE) = false := by
    rw [hc]
    generalize combS l nmTE = s at *
    cases he : endsS (s ++ 44 :: (32 :: 120 :: w)) with
    | false => simp [codOk, he]
    | true =>
      have he2 : endsS (32 :: 120 :: w) = true := by rw [ends_comma g1] at he; exact he
      obtain ⟨q1, q2⟩ := split_lead (120 :: w)
      have he3 : endsS (120 :: w) = true := by rw [← q1]; exact he2
      have hR := split_some (c := 120) (w := w) (by decide) (by decide) (by decide) (by decide) he3
      have hsp : splitS (s ++ 44 :: (32 :: 120 :: w)) = c :: splitS (120 :: w) := by rw [split_comma g1 he2, g2, q2]; rfl
      rw [codOk, he, Bool.true_and, hsp]
      generalize splitS (120 :: w) = R at *
      rw [← Bool.not_eq_true]
      intro hg
      simp only [codGood, Bool.and_eq_true, decide_eq_true_eq, List.countP_cons, g4, if_true, List.length_cons, Nat.add_sub_cancel] at hg
      obtain ⟨_, k1, k2, _⟩ := hg
      have hpos := List.length_pos_iff.2 hR
      obtain ⟨m, hm⟩ : ∃ m, R.length = m + 1 := ⟨R.length - 1, by omega⟩
      rw [hm, List.getD_cons_succ] at k2
      have hz : R.countP isChk = 0 := by omega
      have := countP_zero_iff.1 hz m (by omega)
      rw [this] at k2; cases k2
  refine ⟨by simp [codB, hbad], by simp [codE, hbad, hhas]⟩
theorem cod_gzip {l : List Fld} (h1 : hasF l nmTE = true) (h2 : codOk (combS l nmTE) = true) (h3 : (splitS (combS l nmTE)).length ≤ 1) :
    codB ((nmTE, [103, 122, 105, 112]) :: l) = false ∧ codE ((nmTE, [103, 122, 105, 112]) :: l) = 15 := by
  have hne : allS l nmTE ≠ [] := by
    rw [hasF_iff] at h1; simpa using h1
  have hn : isN [nmTE] (nmTE, [103, 122, 105, 112]) = true := by decide +kernel
  have hA : allS ((nmTE, [103, 122, 105, 112]) :: l) nmTE = [103, 122, 105, 112] :: allS l nmTE := by
    simp only [allS, List.filter_cons_of_pos hn, List.map_cons]
  have hhas : hasF ((nmTE, [103, 122, 105, 112]) :: l) nmTE = true := by rw [hasF_iff, hA]; simp
  have hc : combS ((nmTE, [103, 122, 105, 112]) :: l) nmTE = [103, 122, 105, 112] ++ 44 :: (32 :: combS l nmTE) := by
    have := joinS_append (a := [[103, 122, 105, 112]]) (b := allS l nmTE) (by simp) hne
    rw [combS, hA, combS]
    exact this
  obtain ⟨g1, c, g2, g3, g4, g5⟩ := cod_one h2 h3
  obtain ⟨t1, t2, t3⟩ := tok_pars (s := [103, 122, 105, 112]) (by decide +kernel)
  have hz1 : goodE [103, 122, 105, 112] = true := by simp [goodE, t1]
  have hz2 : isChk [103, 122, 105, 112] = false := by unfold isChk; rw [t2]; decide +kernel
  obtain ⟨q1, q2⟩ := split_lead (combS l nmTE)
  have he : endsS [103, 122, 105, 112] = true := by decide +kernel
  have hsp : splitS ([103, 122, 105, 112] ++ 44 :: (32 :: combS l nmTE)) = [[103, 122, 105, 112], c] := by
    rw [split_comma he (by rw [q1]; exact g1), q2, g2]
    have : splitS [103, 122, 105, 112] = [[103, 122, 105, 112]] := by decide +kernel
    rw [this]; rfl
  have hok : codOk (combS ((nmTE, [103, 122, 105, 112]) :: l) nmTE) = true := by
    rw [hc, codOk, ends_comma he, q1, g1, hsp]
    simp [codGood, hz1, hz2, g3, g4, g5]
  refine ⟨?_, ?_⟩
  · rw [codB, hc, hsp]; simp
  · rw [codE, if_pos hhas, if_pos hok, hc, hsp]; rfl
theorem cod_vals {l : List Fld} {w : List (List UInt8)} (h : hasF l nmTE = true) (he : endsS (combS l nmTE) = true) (hs : splitS (combS l nmTE) = w) :
    codB l = (codGood w && decide (w.length ≤ 1)) ∧ codE l = if codGood w = true then (if w.length ≤ 1 then 0 else 15) else 14 := by
  simp only [codB, codE, codOk, h, he, hs, Bool.true_and, if_true, and_self]
theorem cod_err {l : List Fld} (h : codE l ≠ 0) : codB l = false := by
  unfold codE at h
  unfold codB
  split at h
  · split at h
    · rename_i h1 h2
      split at h
      · exact absurd rfl h
      · rename_i h3; simp [h3]
    · rename_i h1 h2; rw [Bool.eq_false_iff.2 h2]; simp
  · exact absurd rfl h
theorem cod_yes {l : List Fld} (h : codB l = true) : hasF l nmTE = true ∧ codOk (combS l nmTE) = true ∧ (splitS (combS l nmTE)).length ≤ 1 := by
  simpa only [codB, Bool.and_eq_true, decide_eq_true_eq] using h
end Go.Mdl
