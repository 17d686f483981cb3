/- cursor: what is computed. No condition. -/
import Derived.Test.YtlkfjkimnkhelaaDoorOctM
set_option linter.unusedVariables false
set_option linter.unusedSimpArgs false
namespace Go.Mdl
open Go Go.Abs

/-- How many octets come first that are so. -/
def spanL (p : UInt8 → Bool) (s : List UInt8) : Nat := (s.takeWhile p).length
theorem spanL_le (p : UInt8 → Bool) (s : List UInt8) : spanL p s ≤ s.length := by
  have := List.takeWhile_sublist (l := s) p
  exact this.length_le
theorem takeWhile_all {α : Type} {p : α → Bool} : ∀ {l : List α}, l.all p = true → l.takeWhile p = l
  | [], _ => rfl
  | c :: r, h => by
    simp only [List.all_cons, Bool.and_eq_true] at h
    rw [List.takeWhile_cons_of_pos h.1, takeWhile_all h.2]
theorem drop_cons {s : List UInt8} {i : Nat} (h : i < s.length) : s.drop i = s.getD i 0 :: s.drop (i + 1) := by
  rw [List.drop_eq_getElem_cons h]
  simp [List.getElem?_eq_getElem h]
theorem span_step {p : UInt8 → Bool} {s : List UInt8} {x : Nat} (hx : x < s.length) (h : (s.take x).all p = true) : p (s.getD x 0) = false → spanL p s = x := by
  intro hp
  have e : s = s.take x ++ (s.getD x 0 :: s.drop (x + 1)) := by
    rw [← drop_cons hx, List.take_append_drop]
  unfold spanL
  rw [e, List.takeWhile_append_of_pos (fun y hy => List.all_eq_true.1 h y hy), List.takeWhile_cons_of_neg (by rw [hp]; simp)]
  simp; omega
theorem span_end {p : UInt8 → Bool} {s : List UInt8} (h : s.all p = true) : spanL p s = s.length := by
  unfold spanL
  rw [takeWhile_all h]

theorem span_exit {p : UInt8 → Bool} {t : List UInt8} {x : Nat} (hx : x ≤ t.length) (hn : (t.take x).all p = true) (hf : x < t.length → p (t.getD x 0) = false) : x = spanL p t := by
  by_cases hlt : x < t.length
  · exact (span_step hlt hn (hf hlt)).symm
  · have : x = t.length := by omega
    subst this
    rw [List.take_length] at hn
    exact (span_end hn).symm

/-- The plain text behind a quote, and how many octets have been read: none if it does not end, or may not be. -/
def qGo : List UInt8 → List UInt8 → Nat → Option (List UInt8 × Nat)
  | [], _, _ => none
  | c :: r, acc, i =>
    if c = 34 then some (acc, i + 1)
    else if c = 92 then match r with
      | [] => none
      | d :: r' => if valueB d = true then qGo r' (acc ++ [d]) (i + 2) else none
    else if valueB c = true then qGo r (acc ++ [c]) (i + 1) else none
/-- The quoted text that a text begins with. -/
def qTop (s : List UInt8) : Option (List UInt8 × Nat) :=
  match s with
  | [] => none
  | c :: r => if c = 34 then qGo r [] 1 else none
def qText (s : List UInt8) : List UInt8 := match qTop s with | some (t, _) => t | none => []
def qLen (s : List UInt8) : Nat := match qTop s with | some (_, k) => k | none => 0
def qHas (s : List UInt8) : Bool := match qTop s with | some _ => true | none => false
theorem qGo_bound : ∀ (s acc : List UInt8) (i : Nat) (t : List UInt8) (k : Nat), qGo s acc i = some (t, k) → i < k ∧ k ≤ i + s.length ∧ t.length ≤ acc.length + s.length
  | [], _, _, _, _, h => by simp [qGo] at h
  | c :: r, acc, i, t, k, h => by
    unfold qGo at h
    split at h
    · simp at h; obtain ⟨rfl, rfl⟩ := h; simp
    · split at h
      · split at h
        · cases h
        · rename_i d r'
          split at h
          · have := qGo_bound _ _ _ _ _ h; simp at this ⊢; omega
          · cases h
      · split at h
        · have := qGo_bound _ _ _ _ _ h; simp at this ⊢; omega
        · cases h

theorem qGo_end {t out : List UInt8} {i j : Nat} (h : t.length ≤ i) : qGo (t.drop i) out j = none := by
  rw [List.drop_eq_nil_of_le h]; rfl
theorem qGo_quote {t out : List UInt8} {i j : Nat} (h : i < t.length) (hc : t.getD i 0 = 34) : qGo (t.drop i) out j = some (out, j + 1) := by
  rw [drop_cons h]; unfold qGo; rw [if_pos hc]
theorem qGo_slash_end {t out : List UInt8} {i j : Nat} (h : i + 1 = t.length) (hc : t.getD i 0 = 92) : qGo (t.drop i) out j = none := by
  rw [drop_cons (by omega), List.drop_eq_nil_of_le (by omega), hc]; rfl
theorem qGo_slash {t out : List UInt8} {i j : Nat} (h : i + 1 < t.length) (hc : t.getD i 0 = 92) :
    qGo (t.drop i) out j = if valueB (t.getD (i + 1) 0) = true then qGo (t.drop (i + 2)) (out ++ [t.getD (i + 1) 0]) (j + 2) else none := by
  rw [drop_cons (by omega), drop_cons h, hc, qGo.eq_def]
  rfl
theorem qGo_plain {t out : List UInt8} {i j : Nat} (h : i < t.length) (h1 : t.getD i 0 ≠ 34) (h2 : t.getD i 0 ≠ 92) :
    qGo (t.drop i) out j = if valueB (t.getD i 0) = true then qGo (t.drop (i + 1)) (out ++ [t.getD i 0]) (j + 1) else none := by
  rw [drop_cons h, qGo.eq_def]
  simp only [if_neg h1, if_neg h2]
theorem one_of {s : List UInt8} {i : Nat} (h : i < s.length) : (s.take (i + 1)).drop i = [s.getD i 0] := by
  rw [take_succ_getD 0 h, List.drop_append_of_le_length (by simp; omega), List.drop_eq_nil_of_le (by simp; omega)]
  rfl
theorem one_of2 {s : List UInt8} {i : Nat} (h : i + 1 < s.length) : (s.take (i + 2)).drop (i + 1) = [s.getD (i + 1) 0] := one_of h
theorem qTop_no {t : List UInt8} (h : t = [] ∨ ¬ t.getD 0 0 = 34) : qTop t = none := by
  cases t with
  | nil => rfl
  | cons c r =>
    simp at h
    simp [qTop, h]
theorem qTop_yes {t : List UInt8} (h : ¬ t = []) (hc : t.getD 0 0 = 34) : qTop t = qGo (t.drop 1) [] 1 := by
  cases t with
  | nil => exact absurd rfl h
  | cons c r =>
    simp at hc
    simp [qTop, hc]
theorem q_none {t : List UInt8} (h : qTop t = none) : qText t = [] ∧ qHas t = false ∧ qLen t = 0 := by simp [qText, qHas, qLen, h]
theorem q_some {t out : List UInt8} {k : Nat} (h : qTop t = some (out, k)) : qText t = out ∧ qHas t = true ∧ qLen t = k := by simp [qText, qHas, qLen, h]
theorem valueS_one (c : UInt8) : valueS [c] = valueB c := by simp [valueS]

/-- A text quoted. -/
def escB (c : UInt8) : List UInt8 := if c = 34 ∨ c = 92 then [92, c] else [c]
def escS (s : List UInt8) : List UInt8 := s.flatMap escB
def quoteS (s : List UInt8) : List UInt8 := if tokenS s = true then s else if valueS s = true then 34 :: (escS s ++ [34]) else []
def quoteOk (s : List UInt8) : Bool := tokenS s || valueS s
theorem escS_len (s : List UInt8) : (escS s).length ≤ 2 * s.length := by
  induction s with
  | nil => simp [escS]
  | cons c r ih =>
    simp only [escS, List.flatMap_cons, List.length_append, List.length_cons] at ih ⊢
    have : (escB c).length ≤ 2 := by unfold escB; split <;> simp
    omega
theorem esc_append (a b : List UInt8) : escS (a ++ b) = escS a ++ escS b := by simp [escS]
theorem esc_step {s : List UInt8} {i : Nat} (h : i < s.length) : escS (s.take (i + 1)) = escS (s.take i) ++ escB (s.getD i 0) := by
  rw [take_succ_getD 0 h, esc_append]
  simp [escS]
theorem esc_high {l : List UInt8} (h : ∀ c ∈ l, 128 ≤ c.toNat) : escS l = l := by
  induction l with
  | nil => rfl
  | cons c r ih =>
    have hc := h c (by simp)
    have h1 : c ≠ 34 := by rintro rfl; simp at hc
    have h2 : c ≠ 92 := by rintro rfl; simp at hc
    have := ih (fun d hd => h d (by simp [hd]))
    simp only [escS, List.flatMap_cons] at this ⊢
    rw [this]
    simp [escB, h1, h2]
theorem esc_rune {s : List UInt8} {x : Nat} (hx : x < s.length) :
    ((runeAt s x).1 = 34 ∨ (runeAt s x).1 = 92 → escS (s.take (x + (runeAt s x).2)) = escS (s.take x) ++ ([92] ++ (s.take (x + (runeAt s x).2)).drop x)) ∧
    (¬ ((runeAt s x).1 = 34 ∨ (runeAt s x).1 = 92) → escS (s.take (x + (runeAt s x).2)) = escS (s.take x) ++ (s.take (x + (runeAt s x).2)).drop x) := by
  by_cases hl : (s.getD x 0).toNat < 128
  · rw [rune_low hl]
    simp only [one_of hx, esc_step hx, u8_lit, Nat.reduceLT]
    refine ⟨fun h => ?_, fun h => ?_⟩
    · unfold escB; rw [if_pos h]; rfl
    · unfold escB; rw [if_neg h]
  · obtain ⟨h1, h2, h3, h4, h5⟩ := rune_high hx (by omega)
    refine ⟨fun h => by omega, fun _ => ?_⟩
    have e : s.take (x + (runeAt s x).2) = s.take x ++ (s.take (x + (runeAt s x).2)).drop x := by
      have := List.take_append_drop x (s.take (x + (runeAt s x).2))
      rw [List.take_take, Nat.min_eq_left (by omega)] at this
      exact this.symm
    rw [e, esc_append, esc_high (l := (s.take (x + (runeAt s x).2)).drop x)]
    · rw [← e]
    · intro c hc
      obtain ⟨i, hi⟩ := List.getElem?_of_mem hc
      rw [List.getElem?_drop, List.getElem?_take] at hi
      split at hi
      · rename_i hlt
        rw [getD_of_lt (d := 0) (by omega)] at hi
        cases hi
        exact h5 i (by omega)
      · cases hi

/-- How many octets the first rune has. -/
def sizeS (s : List UInt8) : Nat := if s = [] then 0 else (runeAt s 0).2
theorem size_drop {s : List UInt8} {x : Nat} (hx : x < s.length) : sizeS (s.drop x) = (runeAt s x).2 := by
  unfold sizeS
  rw [if_neg (fun h => by have := List.drop_eq_nil_iff.1 h; omega), rune_drop]
theorem quoteS_val {s : List UInt8} (h1 : tokenS s = false) (h2 : valueS s = true) : quoteS s = 34 :: (escS s ++ [34]) ∧ quoteOk s = true := by simp [quoteS, quoteOk, h1, h2]
theorem quoteS_tok {s : List UInt8} (h1 : tokenS s = true) : quoteS s = s ∧ quoteOk s = true := by simp [quoteS, quoteOk, h1]
theorem quoteS_no {s : List UInt8} (h1 : tokenS s = false) (h2 : valueS s = false) : quoteS s = [] ∧ quoteOk s = false := by simp [quoteS, quoteOk, h1, h2]

/-! quoted, and read again -/
theorem qGo_esc : ∀ (s acc r : List UInt8) (i : Nat), valueS s = true → qGo (escS s ++ 34 :: r) acc i = some (acc ++ s, i + (escS s).length + 1)
  | [], acc, r, i, _ => by
    show qGo (34 :: r) acc i = _
    rw [qGo.eq_def]
    simp [escS]
  | c :: s, acc, r, i, h => by
    have hv : valueB c = true ∧ valueS s = true := by simpa [valueS] using h
    have ih := qGo_esc s (acc ++ [c]) r
    have e : escS (c :: s) = escB c ++ escS s := by simp [escS]
    rw [e]
    by_cases hc : c = 34 ∨ c = 92
    · unfold escB
      rw [if_pos hc]
      have := ih (i + 2) hv.2
      simp only [List.cons_append, List.nil_append, List.append_assoc] at this ⊢
      rw [qGo.eq_def]
      simp only [hv.1, if_true]
      rw [if_neg (by decide), this]
      simp; omega
    · unfold escB
      rw [if_neg hc]
      have := ih (i + 1) hv.2
      simp only [List.cons_append, List.nil_append, List.append_assoc] at this ⊢
      rw [qGo.eq_def]
      simp only [hv.1, if_true]
      rw [if_neg (fun h => hc (.inl h)), if_neg (fun h => hc (.inr h)), this]
      simp; omega
theorem qTop_esc {s : List UInt8} (r : List UInt8) (h : valueS s = true) : qTop (34 :: (escS s ++ [34]) ++ r) = some (s, (escS s).length + 2) := by
  have := qGo_esc s [] r 1 h
  simp only [qTop, List.cons_append, List.append_assoc, List.nil_append]
  simp only [List.nil_append] at this
  rw [if_pos trivial, this]
  simp; omega
theorem span_token {s : List UInt8} (r : List UInt8) (h : tokenS s = true) : spanL tcharB (s ++ 44 :: r) = s.length := by
  have hs : s.all tcharB = true := by simp only [tokenS, Bool.and_eq_true] at h; exact h.2
  unfold spanL
  rw [List.takeWhile_append_of_pos (fun y hy => List.all_eq_true.1 hs y hy), List.takeWhile_cons_of_neg (by decide)]
  simp
theorem quoteS_len (s : List UInt8) : (quoteS s).length ≤ 2 * s.length + 2 := by
  unfold quoteS
  split
  · omega
  · split
    · have := escS_len s; simp; omega
    · simp
theorem esc_ge (s : List UInt8) : s.length ≤ (escS s).length := by
  induction s with
  | nil => simp [escS]
  | cons c r ih =>
    simp only [escS, List.flatMap_cons, List.length_append, List.length_cons] at ih ⊢
    have : 1 ≤ (escB c).length := by unfold escB; split <;> simp
    omega

theorem qTop_bound {t out : List UInt8} {k : Nat} (h : qTop t = some (out, k)) : 0 < k ∧ k ≤ t.length := by
  cases t with
  | nil => simp [qTop] at h
  | cons c r =>
    simp only [qTop] at h
    split at h
    · have := qGo_bound _ _ _ _ _ h; simp; omega
    · cases h
theorem qLen_le (t : List UInt8) : qLen t ≤ t.length := by
  unfold qLen
  split
  · rename_i h; exact (qTop_bound h).2
  · omega
theorem qHas_len (t : List UInt8) : qHas t = decide (0 < (qLen t : Int)) := by
  unfold qLen qHas
  cases h : qTop t with
  | none => rfl
  | some x =>
    obtain ⟨o, k⟩ := x
    have := (qTop_bound h).1
    simp; omega
/-- A call of a cursor, as the law tells it. -/
def encAct (r : Int × Int) : AV := .agg [.int .i64 r.1, .int .u8 r.2]
theorem getD_encAct (l : List (Int × Int)) (n : Nat) : (l.map encAct).getD n (.agg [.int .i64 0, .int .u8 0]) = encAct (l.getD n (0, 0)) := by
  simp only [List.getD_eq_getElem?_getD, List.getElem?_map]; cases l[n]? <;> rfl
theorem byte_int {b : Int} (h : inR .u8 b) : b = ((UInt8.ofNat b.toNat).toNat : Int) := by
  simp only [inR] at h
  simp; omega
end Go.Mdl
