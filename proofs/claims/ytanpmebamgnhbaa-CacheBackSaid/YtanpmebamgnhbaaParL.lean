/- params: printed, and read again: plain laws. No condition. -/
import Derived.Test.YtanpmebamgnhbaaParM
set_option linter.unusedVariables false
set_option linter.unusedSimpArgs false
namespace Go.Mdl
open Go Go.Abs

theorem span_stop {p : UInt8 → Bool} {a r : List UInt8} (ha : a.all p = true) (hr : r = [] ∨ ∃ c t, r = c :: t ∧ p c = false) : spanL p (a ++ r) = a.length := by
  unfold spanL
  rw [List.takeWhile_append_of_pos (fun y hy => List.all_eq_true.1 ha y hy)]
  rcases hr with rfl | ⟨c, t, rfl, hc⟩
  · simp
  · rw [List.takeWhile_cons_of_neg (by rw [hc]; simp)]; simp
theorem span_zero {p : UInt8 → Bool} {c : UInt8} {t : List UInt8} (hc : p c = false) : spanL p (c :: t) = 0 := by
  unfold spanL; rw [List.takeWhile_cons_of_neg (by rw [hc]; simp)]; rfl
theorem tchar_noblank (c : UInt8) : tcharB c = true → blankB c = false := by
  intro h
  rw [← Bool.not_eq_true]; intro hb
  have : c = 32 ∨ c = 9 := by simpa [blankB] using hb
  rcases this with rfl | rfl <;> exact absurd h (by decide)
theorem token_head {s : List UInt8} (h : tokenS s = true) : ∃ c t, s = c :: t ∧ tcharB c = true ∧ s.all tcharB = true := by
  simp only [tokenS, Bool.and_eq_true, Bool.not_eq_true', decide_eq_false_iff_not] at h
  cases s with
  | nil => exact absurd rfl h.1
  | cons c t => exact ⟨c, t, rfl, by have := h.2; simp at this; exact this.1, h.2⟩
theorem quoteOk_cases {v : List UInt8} (h : quoteOk v = true) : (tokenS v = true ∧ quoteS v = v) ∨ (tokenS v = false ∧ valueS v = true ∧ quoteS v = 34 :: (escS v ++ [34])) := by
  simp only [quoteOk, Bool.or_eq_true] at h
  cases ht : tokenS v with
  | true => exact .inl ⟨rfl, (quoteS_tok ht).1⟩
  | false =>
    have hv : valueS v = true := by rw [ht] at h; simpa using h
    exact .inr ⟨rfl, hv, (quoteS_val ht hv).1⟩
/-- What may stand behind a parameter: nothing, or the next one. -/
def Tail (r : List UInt8) : Prop := r = [] ∨ ∃ t, r = 59 :: t
theorem Tail.stop {r : List UInt8} (h : Tail r) {p : UInt8 → Bool} (hp : p 59 = false) : r = [] ∨ ∃ c t, r = c :: t ∧ p c = false := by
  rcases h with h | ⟨t, h⟩
  · exact .inl h
  · exact .inr ⟨59, t, h, hp⟩
/-- The value that is printed is read. -/
theorem val_one {v r : List UInt8} (hr : Tail r) (h : v = [] ∨ quoteOk v = true) :
    valText ((if v = [] then [] else 61 :: quoteS v) ++ r) = v ∧ valOk ((if v = [] then [] else 61 :: quoteS v) ++ r) = true ∧
      valTake ((if v = [] then [] else 61 :: quoteS v) ++ r) = (if v = [] then [] else 61 :: quoteS v).length := by
  by_cases hv : v = []
  · rw [if_pos hv]
    have he : eqAt r = false := by
      rcases hr with rfl | ⟨t, rfl⟩
      · decide
      · have : spanL blankB (59 :: t) = 0 := span_zero (by decide)
        simp [eqAt, this]
    rw [List.nil_append]
    simp [valText, valOk, valTake, he, hv]
  · rw [if_neg hv]
    have hq := h.resolve_left hv
    have hb : spanL blankB (61 :: quoteS v ++ r) = 0 := span_zero (by decide)
    have he : eqAt (61 :: quoteS v ++ r) = true := by unfold eqAt; rw [hb]; simp
    have hk : valK (61 :: quoteS v ++ r) = 1 := by unfold valK; rw [hb]
    have hd : (61 :: quoteS v ++ r).drop 1 = quoteS v ++ r := rfl
    rcases quoteOk_cases hq with ⟨ht, e⟩ | ⟨ht, hval, e⟩
    · obtain ⟨c, t, e2, hc, hall⟩ := token_head ht
      have hb2 : spanL blankB (v ++ r) = 0 := by rw [e2]; exact span_zero (tchar_noblank c hc)
      have hj : valJ (61 :: quoteS v ++ r) = 1 := by unfold valJ; rw [hk, hd, e, hb2]
      have hn : valN (61 :: quoteS v ++ r) = v.length := by unfold valN; rw [hj, hd, e]; exact span_stop hall (hr.stop (by decide))
      have hpos : ¬ v.length = 0 := fun h => hv (List.length_eq_zero_iff.1 h)
      refine ⟨?_, ?_, ?_⟩
      · rw [valText, if_pos he, hn, if_neg hpos, hj, hd, e, List.take_left' rfl]
      · rw [valOk, if_pos he, hn, if_neg hpos]
      · rw [valTake, if_pos he, hn, if_neg hpos, hj, e]; simp; omega
    · have hb2 : spanL blankB (quoteS v ++ r) = 0 := by rw [e]; exact span_zero (by decide)
      have hj : valJ (61 :: quoteS v ++ r) = 1 := by unfold valJ; rw [hk, hd, hb2]
      have hn : valN (61 :: quoteS v ++ r) = 0 := by unfold valN; rw [hj, hd, e]; exact span_zero (by decide)
      have hqt : qTop (quoteS v ++ r) = some (v, (escS v).length + 2) := by rw [e]; exact qTop_esc r hval
      obtain ⟨q1, q2, q3⟩ := q_some hqt
      refine ⟨?_, ?_, ?_⟩
      · rw [valText, if_pos he, if_pos hn, hj, hd, q1]
      · rw [valOk, if_pos he, if_pos hn, hj, hd, q2]
      · rw [valTake, if_pos he, if_pos hn, hj, hd, q3, e]; simp; omega
/-- A parameter that is printed is read. -/
theorem par_one {p : List UInt8 × List UInt8} {r : List UInt8} (hp : parMay p = true) (hr : Tail r) :
    parBad (parText p ++ r) = false ∧ parName (parText p ++ r) = lowerS p.1 ∧ parVal (parText p ++ r) = p.2 ∧ parLeft (parText p ++ r) = r := by
  simp only [parMay, Bool.and_eq_true, Bool.or_eq_true, decide_eq_true_eq] at hp
  obtain ⟨ht, hv⟩ := hp
  obtain ⟨c, t, e2, hc, hall⟩ := token_head ht
  obtain ⟨v1, v2, v3⟩ := val_one hr hv
  unfold parText
  generalize hX : (if p.2 = [] then [] else 61 :: quoteS p.2) = X at *
  have hXs : X = [] ∨ ∃ c t, X = c :: t ∧ tcharB c = false := by
    rw [← hX]; split
    · exact .inl rfl
    · exact .inr ⟨61, _, rfl, by decide⟩
  have hY : X ++ r = [] ∨ ∃ c t, X ++ r = c :: t ∧ tcharB c = false := by
    rcases hXs with h | ⟨c, t, h, h'⟩
    · rw [h]; exact hr.stop (by decide)
    · exact .inr ⟨c, t ++ r, by rw [h]; rfl, h'⟩
  have ea : 59 :: (p.1 ++ X) ++ r = 59 :: (p.1 ++ (X ++ r)) := by simp
  rw [ea]
  generalize hY2 : X ++ r = Y at *
  have hb : spanL blankB (59 :: (p.1 ++ Y)) = 0 := span_zero (by decide)
  have hs : semi (59 :: (p.1 ++ Y)) = true := by unfold semi; rw [hb]; simp
  have hk : parK (59 :: (p.1 ++ Y)) = 1 := by unfold parK; rw [hb, hs]; rfl
  have hd : (59 :: (p.1 ++ Y)).drop 1 = p.1 ++ Y := rfl
  have hb2 : spanL blankB (p.1 ++ Y) = 0 := by rw [e2]; exact span_zero (tchar_noblank c hc)
  have hj : parJ (59 :: (p.1 ++ Y)) = 1 := by unfold parJ; rw [hk, hd, hb2]
  have hn : parN (59 :: (p.1 ++ Y)) = p.1.length := by unfold parN; rw [hj, hd]; exact span_stop hall hY
  have hrest : parRest (59 :: (p.1 ++ Y)) = Y := by
    unfold parRest; rw [hj, hn, ← List.drop_drop, hd, List.drop_left' rfl]
  have hpos : ¬ p.1.length = 0 := by rw [e2]; simp
  refine ⟨?_, ?_, ?_, ?_⟩
  · rw [parBad, hs, hn, hrest, v2]; simp [hpos]
  · rw [parName, hj, hd, hn, List.take_left' rfl]
  · rw [parVal, hrest, v1]
  · rw [parLeft, parTake, hj, hn, hrest, v3]
    rw [show 1 + p.1.length + X.length = 1 + (p.1.length + X.length) by omega, ← List.drop_drop, hd, ← List.drop_drop, List.drop_left' rfl, ← hY2, List.drop_left' rfl]
theorem tail_text (l : List (List UInt8 × List UInt8)) : Tail (l.flatMap parText) := by
  cases l with
  | nil => exact .inl rfl
  | cons p r => exact .inr ⟨_, rfl⟩
theorem go_text : ∀ {l : List (List UInt8 × List UInt8)}, l.all parMay = true → parsGo (l.flatMap parText) = some (l.map fun p => (lowerS p.1, p.2))
  | [], _ => parsGo_nil
  | p :: r, h => by
    simp only [List.all_cons, Bool.and_eq_true] at h
    obtain ⟨h1, h2, h3, h4⟩ := par_one h.1 (tail_text r)
    rw [List.flatMap_cons, parsGo_step (by unfold parText; simp) h1, h4, h2, h3, go_text h.2]; rfl
/-- What is printed is read as the same, with small letters. -/
theorem print_parse {n : List UInt8} {l : List (List UInt8 × List UInt8)} (h : parsMay n l = true) :
    parsErr (parsText n l) = 0 ∧ parsName (parsText n l) = lowerS n ∧ parsList (parsText n l) = l.map fun p => (lowerS p.1, p.2) := by
  have hm := h
  simp only [parsMay, Bool.and_eq_true] at h
  obtain ⟨c, t, e2, hc, hall⟩ := token_head h.1
  have e : parsText n l = n ++ l.flatMap parText := by simp [parsText, hm, textGo]
  rw [e]
  have hsp : spanL tcharB (n ++ l.flatMap parText) = n.length := span_stop hall ((tail_text l).stop (by decide))
  have hpos : ¬ n.length = 0 := by rw [e2]; simp
  have hr : restP (n ++ l.flatMap parText) = l.flatMap parText := by unfold restP; rw [hsp, List.drop_left' rfl]
  have hw : wordP (n ++ l.flatMap parText) = n := by unfold wordP; rw [hsp, List.take_left' rfl]
  have hok : parsOk (n ++ l.flatMap parText) = true := by simp [parsOk, hsp, hpos, hr, go_text h.2]
  have hne : n ++ l.flatMap parText ≠ [] := by rw [e2]; simp
  exact ⟨by simp only [parsErr, if_neg hne, hok, if_true], by simp only [parsName, hok, if_true, hw], by simp only [parsList, hok, if_true, hr, go_text h.2, Option.getD_some]⟩

theorem low_token (c : UInt8) : tcharB c = true → tcharB (lowerB c) = true ∧ lowerB (lowerB c) = lowerB c := by
  have : ∀ n, n < 256 → (tcharB (UInt8.ofNat n) = true → tcharB (lowerB (UInt8.ofNat n)) = true ∧ lowerB (lowerB (UInt8.ofNat n)) = lowerB (UInt8.ofNat n)) := by decide +kernel
  have := this c.toNat c.toNat_lt
  simpa using this
theorem lower_token {s : List UInt8} (h : tokenS s = true) : tokenS (lowerS s) = true ∧ lowerS (lowerS s) = lowerS s := by
  obtain ⟨c, t, e, hc, hall⟩ := token_head h
  rw [List.all_eq_true] at hall
  refine ⟨?_, ?_⟩
  · simp only [tokenS, Bool.and_eq_true, Bool.not_eq_true', decide_eq_false_iff_not, List.all_eq_true]
    refine ⟨by rw [e]; simp [lowerS], fun x hx => ?_⟩
    obtain ⟨y, hy, rfl⟩ := List.mem_map.1 hx
    exact (low_token y (hall y hy)).1
  · simp only [lowerS, List.map_map]
    exact List.map_congr_left fun y hy => (low_token y (hall y hy)).2
theorem span_token' {s : List UInt8} {n : Nat} (hn : n = spanL tcharB s) (h : n ≠ 0) : tokenS (s.take n) = true := by
  subst hn
  have e : s.take (spanL tcharB s) = s.takeWhile tcharB := (List.prefix_iff_eq_take.1 (List.takeWhile_prefix tcharB)).symm
  simp only [tokenS, Bool.and_eq_true, Bool.not_eq_true', decide_eq_false_iff_not]
  refine ⟨fun h2 => h ?_, by rw [e]; exact List.all_takeWhile⟩
  have := congrArg List.length h2
  have hle := spanL_le tcharB s
  rw [List.length_take, List.length_nil] at this; omega
theorem qGo_value : ∀ (k : Nat) {s acc out : List UInt8} {i n : Nat}, s.length ≤ k → valueS acc = true → qGo s acc i = some (out, n) → valueS out = true
  | _, [], _, _, _, _, _, _, h => by simp [qGo] at h
  | 0, c :: r, _, _, _, _, hk, _, _ => by simp at hk
  | k + 1, c :: r, acc, out, i, n, hk, ha, h => by
    simp only [List.length_cons] at hk
    rw [qGo.eq_def] at h
    simp only at h
    split at h
    · simp at h; rw [← h.1]; exact ha
    · split at h
      · split at h
        · cases h
        · rename_i d r'
          split at h
          · rename_i hv
            exact qGo_value k (by simp only [List.length_cons] at hk; omega) (by simp only [valueS, List.all_append, List.all_cons, List.all_nil, hv] at ha ⊢; simp [ha]) h
          · cases h
      · split at h
        · rename_i hv
          exact qGo_value k (by omega) (by simp only [valueS, List.all_append, List.all_cons, List.all_nil, hv] at ha ⊢; simp [ha]) h
        · cases h
theorem qText_value (t : List UInt8) : valueS (qText t) = true := by
  unfold qText
  split
  · rename_i o k h
    unfold qTop at h
    split at h
    · cases h
    · split at h
      · exact qGo_value _ (Nat.le_refl _) rfl h
      · cases h
  · rfl
theorem valText_may (t : List UInt8) : valText t = [] ∨ quoteOk (valText t) = true := by
  unfold valText
  split
  · split
    · right
      simp only [quoteOk, qText_value, Bool.or_true]
    · rename_i hn
      right
      have := span_token' (s := t.drop (valJ t)) (n := valN t) rfl hn
      simp only [quoteOk, this, Bool.true_or]
  · exact .inl rfl
/-- What is read may be printed, and its names have small letters. -/
theorem go_may (k : Nat) : ∀ {t : List UInt8} {l : List (List UInt8 × List UInt8)}, t.length ≤ k → parsGo t = some l → l.all parMay = true ∧ (l.map fun p => (lowerS p.1, p.2)) = l := by
  induction k with
  | zero =>
    intro t l hk h
    have h0 : t = [] := List.length_eq_zero_iff.1 (by omega)
    subst h0; rw [parsGo_nil] at h; cases h; exact ⟨rfl, rfl⟩
  | succ k ih =>
    intro t l hk h
    by_cases h0 : t = []
    · subst h0; rw [parsGo_nil] at h; cases h; exact ⟨rfl, rfl⟩
    · cases hb : parBad t with
      | true => rw [parsGo_bad h0 hb] at h; cases h
      | false =>
        rw [parsGo_step h0 hb, Option.map_eq_some_iff] at h
        obtain ⟨r, hr, rfl⟩ := h
        have hlt := parLeft_lt hb
        obtain ⟨i1, i2⟩ := ih (by omega) hr
        have hn : parN t ≠ 0 := by
          simp only [parBad, Bool.or_eq_false_iff, decide_eq_false_iff_not] at hb; exact hb.2.1
        have ht := span_token' (s := t.drop (parJ t)) (n := parN t) rfl hn
        obtain ⟨l1, l2⟩ := lower_token ht
        have hnm : parName t = lowerS ((t.drop (parJ t)).take (parN t)) := rfl
        have hv : parVal t = [] ∨ quoteOk (parVal t) = true := valText_may _
        refine ⟨?_, ?_⟩
        · simp only [List.all_cons, i1, Bool.and_true, parMay, Bool.and_eq_true, Bool.or_eq_true, decide_eq_true_eq]
          exact ⟨by rw [hnm]; exact l1, hv⟩
        · simp only [List.map_cons, i2]
          rw [hnm, l2]
theorem parse_may {s : List UInt8} (h : parsErr s = 0) : parsMay (parsName s) (parsList s) = true ∧ lowerS (parsName s) = parsName s ∧ (parsList s).map (fun p => (lowerS p.1, p.2)) = parsList s := by
  have hok : parsOk s = true := by
    unfold parsErr at h
    split at h
    · cases h
    · split at h
      · rename_i h1; exact h1
      · cases h
  have ho := hok
  simp only [parsOk, Bool.and_eq_true, Bool.not_eq_true', decide_eq_false_iff_not] at ho
  obtain ⟨l, hl⟩ := Option.isSome_iff_exists.1 ho.2
  obtain ⟨g1, g2⟩ := go_may _ (Nat.le_refl _) hl
  have ht := span_token' (s := s) rfl ho.1
  obtain ⟨l1, l2⟩ := lower_token ht
  have e1 : parsName s = lowerS (s.take (spanL tcharB s)) := by simp [parsName, hok, wordP]
  have e2 : parsList s = l := by simp [parsList, hok, hl]
  rw [e1, e2]
  exact ⟨by simp [parsMay, l1, g1], l2, g2⟩
theorem parse_bad {s : List UInt8} (h : parsErr s ≠ 0) : parsName s = [] ∧ parsList s = [] := by
  have : parsOk s = false ∨ s = [] := by
    unfold parsErr at h
    split at h
    · rename_i h1; exact .inr h1
    · split at h
      · exact absurd rfl h
      · rename_i h1; left; simpa using h1
  rcases this with h1 | rfl
  · simp [parsName, parsList, h1]
  · decide +kernel
/-! lengths -/
theorem qGo_out (k : Nat) : ∀ {s acc t : List UInt8} {i n : Nat}, s.length ≤ k → qGo s acc i = some (t, n) → t.length + i + 1 ≤ acc.length + n := by
  induction k with
  | zero =>
    intro s acc t i n hk h
    have : s = [] := List.length_eq_zero_iff.1 (by omega)
    subst this; simp [qGo] at h
  | succ k ih =>
    intro s acc t i n hk h
    cases s with
    | nil => simp [qGo] at h
    | cons c r =>
      simp only [List.length_cons] at hk
      rw [qGo.eq_def] at h
      simp only at h
      split at h
      · simp only [Option.some.injEq, Prod.mk.injEq] at h
        obtain ⟨rfl, rfl⟩ := h; omega
      · split at h
        · split at h
          · cases h
          · rename_i d r'
            split at h
            · have := ih (by simp only [List.length_cons] at hk; omega) h
              simp only [List.length_append, List.length_cons, List.length_nil] at this; omega
            · cases h
        · split at h
          · have := ih (by omega) h
            simp only [List.length_append, List.length_cons, List.length_nil] at this; omega
          · cases h
theorem qText_len (t : List UInt8) : (qText t).length ≤ qLen t := by
  unfold qText qLen
  split
  · rename_i o k h
    unfold qTop at h
    split at h
    · cases h
    · split at h
      · have := qGo_out _ (Nat.le_refl _) h
        rw [List.length_nil] at this; omega
      · cases h
  · simp
theorem valText_len (t : List UInt8) : (valText t).length ≤ valTake t := by
  unfold valText valTake
  split
  · split
    · have := qText_len (t.drop (valJ t)); omega
    · rw [List.length_take]; omega
  · simp
theorem par_len {t : List UInt8} (h : parBad t = false) : (parName t).length + (parVal t).length + 1 ≤ parTake t := by
  have h1 := valText_len (parRest t)
  simp only [parBad, Bool.or_eq_false_iff, Bool.not_eq_false'] at h
  have h2 : (parName t).length ≤ parN t := by unfold parName; rw [lowerS_len, List.length_take]; omega
  have h3 : 1 ≤ parJ t := by unfold parJ parK; rw [if_pos h.1]; omega
  have h4 : (parVal t).length ≤ valTake (parRest t) := h1
  unfold parTake; omega
theorem go_len (k : Nat) : ∀ {t : List UInt8} {l : List (List UInt8 × List UInt8)}, t.length ≤ k → parsGo t = some l → l.length ≤ t.length ∧ (l.flatMap parText).length ≤ 4 * t.length ∧ ∀ p ∈ l, p.1.length ≤ t.length ∧ p.2.length ≤ t.length := by
  induction k with
  | zero =>
    intro t l hk h
    have h0 : t = [] := List.length_eq_zero_iff.1 (by omega)
    subst h0; rw [parsGo_nil] at h; cases h; simp
  | succ k ih =>
    intro t l hk h
    by_cases h0 : t = []
    · subst h0; rw [parsGo_nil] at h; cases h; simp
    · cases hb : parBad t with
      | true => rw [parsGo_bad h0 hb] at h; cases h
      | false =>
        rw [parsGo_step h0 hb, Option.map_eq_some_iff] at h
        obtain ⟨r, hr, rfl⟩ := h
        have hlt := parLeft_lt hb
        obtain ⟨i1, i2, i3⟩ := ih (by omega) hr
        have h1 := par_len hb
        have h2 := parTake_le t
        have h3 : (parLeft t).length = t.length - parTake t := by simp [parLeft]
        have h4 := parText_len (parName t, parVal t)
        simp only at h4
        refine ⟨by simp only [List.length_cons]; omega, by simp only [List.flatMap_cons, List.length_append]; omega, fun p hp => ?_⟩
        rcases List.mem_cons.1 hp with rfl | hp
        · simp only; omega
        · have := i3 p hp; omega
theorem pars_len (s : List UInt8) : (parsName s).length ≤ s.length ∧ (parsList s).length ≤ s.length ∧ (parsText (parsName s) (parsList s)).length ≤ 5 * s.length ∧ ∀ p ∈ parsList s, p.1.length ≤ s.length ∧ p.2.length ≤ s.length := by
  have hn : (parsName s).length ≤ s.length := by
    unfold parsName; split
    · rw [lowerS_len, wordP, List.length_take]; omega
    · simp
  cases hok : parsOk s with
  | false =>
    have e : parsList s = [] := by simp [parsList, hok]
    refine ⟨hn, by rw [e]; simp, ?_, by rw [e]; simp⟩
    unfold parsText; split
    · rw [e]; simp [textGo]; omega
    · simp
  | true =>
    have ho := hok
    simp only [parsOk, Bool.and_eq_true] at ho
    obtain ⟨l, hl⟩ := Option.isSome_iff_exists.1 ho.2
    have e : parsList s = l := by simp [parsList, hok, hl]
    have hr : (restP s).length ≤ s.length := by simp [restP]
    obtain ⟨g1, g2, g3⟩ := go_len _ (Nat.le_refl _) hl
    rw [e]
    refine ⟨hn, by omega, ?_, fun p hp => by have := g3 p hp; omega⟩
    unfold parsText; split
    · simp only [textGo, List.length_append]; omega
    · simp
end Go.Mdl
