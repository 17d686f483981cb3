/- host: what is computed. No condition. -/
import Derived.Test.YtlkfjkimnkhelaaDoorDigM
import Derived.Test.YtlkfjkimnkhelaaDoorOctT
import Derived.Test.YtlkfjkimnkhelaaDoorCurM
import Derived.Test.YtlkfjkimnkhelaaDoorLibM
set_option linter.unusedVariables false
set_option linter.unusedSimpArgs false
namespace Go.Mdl
open Go Go.Abs

def hexI (r : Int) : Bool := decide (48 ≤ r ∧ r ≤ 57 ∨ 97 ≤ r ∧ r ≤ 102 ∨ 65 ≤ r ∧ r ≤ 70)
def hexB (c : UInt8) : Bool := hexI c.toNat
def hsigns : List UInt8 := [45, 46, 95, 126, 33, 36, 38, 39, 40, 41, 42, 43, 44, 59, 61]
def plainI (r : Int) : Bool := alnumI r || hsigns.any fun m => decide ((m.toNat : Int) = r)
def plainB (c : UInt8) : Bool := plainI c.toNat
/-- A name, so many digits being owed behind a %. -/
def regGo : Nat → List UInt8 → Bool
  | n, [] => decide (n = 0)
  | n + 1, c :: r => hexB c && regGo n r
  | 0, c :: r => if c = 37 then regGo 2 r else plainB c && regGo 0 r
def regS (s : List UInt8) : Bool := !decide (s = []) && regGo 0 s
def litB (c : UInt8) : Bool := hexB c || decide (c = 58) || decide (c = 46)
def litS (s : List UInt8) : Bool := decide (s.getD 0 0 = 91) && (decide (3 ≤ s.length) && (decide (s.getD (s.length - 1) 0 = 93) && ((s.drop 1).take (s.length - 2)).all litB))

/-- The place of the last c; -1: there is none. -/
def lastUp (c : UInt8) : List UInt8 → Int
  | [] => -1
  | b :: l => if 0 ≤ lastUp c l then lastUp c l + 1 else if b = c then 0 else -1
theorem lastUp_ge (c : UInt8) : ∀ s, -1 ≤ lastUp c s
  | [] => by simp [lastUp]
  | b :: l => by
    have := lastUp_ge c l
    simp only [lastUp]; split
    · omega
    · split <;> omega
theorem lastUp_lt (c : UInt8) : ∀ s : List UInt8, lastUp c s < s.length
  | [] => by simp [lastUp]
  | b :: l => by
    have := lastUp_lt c l
    simp only [lastUp, List.length_cons]; split
    · omega
    · split <;> omega

/-! ### the program's answer -/
def cutHas (s : List UInt8) : Bool := decide (idxB 93 s ≤ lastUp 58 s ∧ 0 ≤ lastUp 58 s)
def cutName (s : List UInt8) : List UInt8 := if cutHas s = true then s.take (lastUp 58 s).toNat else s
def cutPort (s : List UInt8) : List UInt8 := if cutHas s = true then s.drop ((lastUp 58 s).toNat + 1) else []
def nameS (s : List UInt8) : Bool := regS s || litS s
def hostErr (s : List UInt8) : Int :=
  if s = [] then 2
  else if nameS (cutName s) = false then 3
  else if cutHas s = false then 0
  else if numErr 10 65535 (cutPort s) = 0 then 0
  else if numErr 10 65535 (cutPort s) = 5 then 5 else 3
def hostName (s : List UInt8) : List UInt8 := if hostErr s = 0 then cutName s else []
def hostPort (s : List UInt8) : Int := if hostErr s = 0 then (if cutHas s = true then numVal 10 65535 (cutPort s) else 80) else 0
def hostText (n : List UInt8) (p : Int) : List UInt8 := if p = 80 then lowerS n else lowerS n ++ [58] ++ textI p
def hostKeyOk (s : List UInt8) : Bool := decide (hostErr s = 0)
def hostKey (s : List UInt8) : List UInt8 := if hostErr s = 0 then hostText (hostName s) (hostPort s) else []

theorem hostErr_cases (s : List UInt8) : hostErr s = 0 ∨ hostErr s = 2 ∨ hostErr s = 3 ∨ hostErr s = 5 := by
  unfold hostErr
  split
  · exact .inr (.inl rfl)
  · split
    · exact .inr (.inr (.inl rfl))
    · split
      · exact .inl rfl
      · split
        · exact .inl rfl
        · split
          · exact .inr (.inr (.inr rfl))
          · exact .inr (.inr (.inl rfl))

/-! ### the document's answer -/
/-- How many octets a name has that is no literal; none: a % that nothing stands behind. -/
def regLen : List UInt8 → Option Nat
  | [] => some 0
  | c :: r => if c = 37 then (match r with
      | a :: b :: r' => if hexB a = true ∧ hexB b = true then (regLen r').map (· + 3) else none
      | _ => none)
    else if plainB c = true then (regLen r).map (· + 1) else some 0
def litLen (s : List UInt8) : Nat :=
  let k := spanL litB (s.drop 1)
  if k = 0 ∨ k + 1 = s.length ∨ s.getD (k + 1) 0 ≠ 93 then 0 else k + 2
def nameLen (s : List UInt8) : Nat := if s.getD 0 0 = 91 ∧ s ≠ [] then litLen s else (regLen s).getD 0

theorem lastUp_none {c : UInt8} : ∀ {s : List UInt8}, lastUp c s = -1 → c ∉ s
  | [], _ => by simp
  | b :: l, h => by
    have := lastUp_ge c l
    simp only [lastUp] at h
    split at h
    · omega
    · split at h
      · omega
      · rename_i h1 h2
        intro hm
        rcases List.mem_cons.1 hm with e | e
        · exact h2 e.symm
        · exact lastUp_none (by omega) e
theorem getD_append_ge {α : Type} {a b : List α} {i : Nat} (d : α) (h : a.length ≤ i) : (a ++ b).getD i d = b.getD (i - a.length) d := by
  simp only [List.getD_eq_getElem?_getD, List.getElem?_append_right h]
theorem take_span {p : UInt8 → Bool} (r : List UInt8) : r.take (spanL p r) = r.takeWhile p := (List.prefix_iff_eq_take.1 (List.takeWhile_prefix p)).symm
theorem u8_forall {p : UInt8 → Prop} (h : ∀ n, n < 256 → p (UInt8.ofNat n)) (c : UInt8) : p c := by
  have := h c.toNat c.toNat_lt
  simpa using this
theorem regGo_37 (r : List UInt8) : regGo 0 (37 :: r) = regGo 2 r := by simp [regGo]
theorem regGo_plain {c : UInt8} (r : List UInt8) (h : c ≠ 37) : regGo 0 (c :: r) = (plainB c && regGo 0 r) := by simp [regGo, h]
theorem regGo_owe (n : Nat) (c : UInt8) (r : List UInt8) : regGo (n + 1) (c :: r) = (hexB c && regGo n r) := rfl
theorem regGo_two {r : List UInt8} (h : regGo 2 r = true) : ∃ a b r', r = a :: b :: r' ∧ hexB a = true ∧ hexB b = true ∧ regGo 0 r' = true := by
  match r, h with
  | a :: b :: r', h =>
    simp only [regGo_owe, Bool.and_eq_true] at h
    exact ⟨a, b, r', rfl, h.1, h.2.1, h.2.2⟩
  | [a], h => simp [regGo] at h
  | [], h => simp [regGo] at h
theorem regLen_37 (a b : UInt8) (r : List UInt8) : regLen (37 :: a :: b :: r) = if hexB a = true ∧ hexB b = true then (regLen r).map (· + 3) else none := by rw [regLen]; simp
theorem regLen_plain {c : UInt8} (r : List UInt8) (h : c ≠ 37) : regLen (c :: r) = if plainB c = true then (regLen r).map (· + 1) else some 0 := by rw [regLen.eq_def]; simp only [if_neg h]
/-- A name, and what may stand behind it. -/
theorem reg_len : ∀ (k : Nat) {n t : List UInt8}, n.length ≤ k → regGo 0 n = true → (t = [] ∨ ∃ r, t = 58 :: r) → regLen (n ++ t) = some n.length
  | k, [], t, _, _, ht => by
    rcases ht with rfl | ⟨r, rfl⟩
    · rfl
    · rw [List.nil_append, regLen_plain r (by decide), if_neg (by decide)]; rfl
  | 0, c :: r, t, hk, _, _ => by simp at hk
  | k + 1, c :: r, t, hk, h, ht => by
    simp only [List.length_cons] at hk
    by_cases e : c = 37
    · subst e
      rw [regGo_37] at h
      obtain ⟨a, b, r', rfl, h1, h2, h3⟩ := regGo_two h
      simp only [List.length_cons] at hk
      rw [List.cons_append, List.cons_append, List.cons_append, regLen_37, if_pos ⟨h1, h2⟩, reg_len k (by omega) h3 ht]
      simp
    · rw [regGo_plain r e, Bool.and_eq_true] at h
      rw [List.cons_append, regLen_plain _ e, if_pos h.1, reg_len k (by omega) h.2 ht]
      simp
theorem reg_take : ∀ (k : Nat) {s : List UInt8} {n : Nat}, s.length ≤ k → regLen s = some n → n ≤ s.length ∧ regGo 0 (s.take n) = true
  | k, [], n, _, h => by simp [regLen] at h; subst h; simp [regGo]
  | 0, c :: r, n, hk, _ => by simp at hk
  | k + 1, c :: r, n, hk, h => by
    simp only [List.length_cons] at hk
    by_cases e : c = 37
    · subst e
      match r, hk, h with
      | a :: b :: r', hk, h =>
        rw [regLen_37] at h
        split at h
        · rename_i hh
          simp only [Option.map_eq_some_iff] at h
          obtain ⟨m, hm, rfl⟩ := h
          simp only [List.length_cons] at hk
          obtain ⟨g1, g2⟩ := reg_take k (by omega) hm
          refine ⟨by simp; omega, ?_⟩
          simp [regGo, hh.1, hh.2, g2]
        · cases h
      | [a], _, h => simp [regLen] at h
      | [], _, h => simp [regLen] at h
    · rw [regLen_plain _ e] at h
      split at h
      · rename_i hp
        simp only [Option.map_eq_some_iff] at h
        obtain ⟨m, hm, rfl⟩ := h
        obtain ⟨g1, g2⟩ := reg_take k (by omega) hm
        refine ⟨by simp; omega, ?_⟩
        rw [List.take_succ_cons, regGo_plain _ e, hp, g2]; rfl
      · cases h; simp [regGo]
/-- No octet of a name is a colon or a bracket. -/
theorem reg_mem {d : UInt8} (h1 : hexB d = false) (h2 : plainB d = false) (h3 : d ≠ 37) : ∀ {n : List UInt8} {m : Nat}, regGo m n = true → d ∉ n
  | [], _, _ => by simp
  | c :: r, m, h => by
    intro hm
    cases m with
    | succ m =>
      rw [regGo_owe, Bool.and_eq_true] at h
      rcases List.mem_cons.1 hm with e | e
      · subst e; rw [h1] at h; cases h.1
      · exact reg_mem h1 h2 h3 h.2 e
    | zero =>
      by_cases e : c = 37
      · subst e
        rw [regGo_37] at h
        rcases List.mem_cons.1 hm with e | e
        · exact h3 e
        · exact reg_mem h1 h2 h3 h e
      · rw [regGo_plain r e, Bool.and_eq_true] at h
        rcases List.mem_cons.1 hm with e | e
        · subst e; rw [h2] at h; cases h.1
        · exact reg_mem h1 h2 h3 h.2 e

theorem lit_form {n : List UInt8} : litS n = true ↔ ∃ m, m ≠ [] ∧ m.all litB = true ∧ n = 91 :: (m ++ [93]) := by
  constructor
  · intro h
    simp only [litS, Bool.and_eq_true, decide_eq_true_eq] at h
    obtain ⟨h1, h2, h3, h4⟩ := h
    refine ⟨(n.drop 1).take (n.length - 2), ?_, h4, ?_⟩
    · intro e
      have := congrArg List.length e
      simp at this; omega
    · have e1 := drop_cons (s := n) (i := 0) (by omega)
      rw [List.drop_zero, h1] at e1
      have e2 : (n.drop 1) = (n.drop 1).take (n.length - 2) ++ [93] := by
        have := take_succ_getD (s := n.drop 1) (x := n.length - 2) 0 (by simp; omega)
        rw [List.take_of_length_le (by simp; omega)] at this
        rw [this, List.take_append_of_le_length (by simp; omega), List.take_take, Nat.min_self]
        congr 2
        rw [getD_drop, ← h3]
        congr 1; omega
      rw [← e2]; exact e1
  · rintro ⟨m, h1, h2, rfl⟩
    have hl : 1 ≤ m.length := List.length_pos_iff.2 h1
    simp only [litS, Bool.and_eq_true, decide_eq_true_eq, List.length_cons, List.length_append, List.length_nil, List.getD_cons_zero, true_and]
    refine ⟨by omega, ?_, ?_⟩
    · rw [show m.length + (0 + 1) + 1 - 1 = m.length + 1 by omega, List.getD_cons_succ, getD_append_ge 0 (by omega)]
      simp
    · rw [List.drop_one, List.tail_cons, show m.length + (0 + 1) + 1 - 2 = m.length by omega, List.take_left' rfl]
      exact h2
theorem lit_len {m t : List UInt8} (h1 : m ≠ []) (h2 : m.all litB = true) : litLen (91 :: (m ++ [93]) ++ t) = m.length + 2 := by
  have hs : spanL litB ((91 :: (m ++ [93]) ++ t).drop 1) = m.length := by
    rw [List.cons_append, List.drop_one, List.tail_cons, List.append_assoc]
    unfold spanL
    rw [List.takeWhile_append_of_pos (fun y hy => List.all_eq_true.1 h2 y hy), List.cons_append, List.takeWhile_cons_of_neg (by decide)]
    simp
  have hl : 1 ≤ m.length := List.length_pos_iff.2 h1
  simp only [litLen, hs]
  rw [if_neg]
  rintro (h | h | h)
  · omega
  · simp at h <;> omega
  · apply h
    rw [List.cons_append, List.getD_cons_succ, List.append_assoc, getD_append_ge 0 (by omega)]
    simp
theorem lit_take {s : List UInt8} (h : s.getD 0 0 = 91) (hn : litLen s ≠ 0) : litLen s ≤ s.length ∧ litS (s.take (litLen s)) = true := by
  have hs : s ≠ [] := by rintro rfl; simp at h
  obtain ⟨r, rfl⟩ : ∃ r, s = 91 :: r := by
    cases s with
    | nil => exact absurd rfl hs
    | cons a r => simp at h; exact ⟨r, by rw [h]⟩
  simp only [litLen, List.drop_one, List.tail_cons, List.length_cons] at hn ⊢
  split at hn
  · exact absurd rfl hn
  · rename_i hc
    simp only [not_or] at hc
    rw [if_neg (by simp only [not_or]; exact hc)]
    have hle := spanL_le litB r
    obtain ⟨c1, c2, c3⟩ := hc
    have c3 : r.getD (spanL litB r) 0 = 93 := by simpa using c3
    have hlt : spanL litB r < r.length := by omega
    refine ⟨by omega, lit_form.2 ⟨r.take (spanL litB r), ?_, ?_, ?_⟩⟩
    · intro e; have := congrArg List.length e; rw [List.length_take, List.length_nil] at this; omega
    · rw [take_span]
      exact List.all_takeWhile
    · rw [List.take_succ_cons, take_succ_getD 0 hlt, c3]
/-- The name that a text begins with, and how long that is. -/
theorem name_len {n t : List UInt8} (h : nameS n = true) (ht : t = [] ∨ ∃ r, t = 58 :: r) : nameLen (n ++ t) = n.length := by
  simp only [nameS, Bool.or_eq_true] at h
  by_cases hl : litS n = true
  · obtain ⟨m, h1, h2, rfl⟩ := lit_form.1 hl
    unfold nameLen
    rw [if_pos ⟨by simp, by simp⟩, lit_len h1 h2]; simp
  · have hr : regS n = true := h.resolve_right hl
    simp only [regS, Bool.and_eq_true, Bool.not_eq_true', decide_eq_false_iff_not] at hr
    have h91 : ¬ ((n ++ t).getD 0 0 = 91 ∧ n ++ t ≠ []) := by
      cases n with
      | nil => exact absurd rfl hr.1
      | cons c r =>
        rintro ⟨e, _⟩
        simp at e; subst e
        exact reg_mem (d := 91) (by decide) (by decide) (by decide) hr.2 (by simp)
    unfold nameLen
    rw [if_neg h91, reg_len n.length (Nat.le_refl _) hr.2 ht]; rfl
theorem name_take {s : List UInt8} (h : nameLen s ≠ 0) : nameLen s ≤ s.length ∧ nameS (s.take (nameLen s)) = true := by
  unfold nameLen at h ⊢
  split
  · rename_i hc
    rw [if_pos hc] at h
    obtain ⟨h1, h2⟩ := lit_take hc.1 h
    exact ⟨h1, by simp [nameS, h2]⟩
  · rename_i hc
    rw [if_neg hc] at h
    cases hr : regLen s with
    | none => rw [hr] at h; exact absurd rfl h
    | some k =>
      rw [hr] at h
      obtain ⟨h1, h2⟩ := reg_take s.length (Nat.le_refl _) hr
      simp only [Option.getD_some] at h ⊢
      refine ⟨h1, ?_⟩
      have : s.take k ≠ [] := by
        intro e; have := congrArg List.length e; simp at this
        rcases this with e | e
        · exact h e
        · subst e; simp at h1; exact h h1
      simp [nameS, regS, h2, this]

/-! ### where a text is cut -/
theorem lastUp_spec {c : UInt8} : ∀ {s : List UInt8}, 0 ≤ lastUp c s → s = s.take (lastUp c s).toNat ++ c :: s.drop ((lastUp c s).toNat + 1) ∧ c ∉ s.drop ((lastUp c s).toNat + 1)
  | [], h => by simp [lastUp] at h
  | b :: l, h => by
    simp only [lastUp] at h ⊢
    by_cases h0 : 0 ≤ lastUp c l
    · rw [if_pos h0] at h ⊢
      obtain ⟨h1, h2⟩ := lastUp_spec h0
      rw [show (lastUp c l + 1).toNat = (lastUp c l).toNat + 1 by omega]
      simp only [List.take_succ_cons, List.drop_succ_cons, List.cons_append]
      exact ⟨by rw [← h1], h2⟩
    · rw [if_neg h0] at h ⊢
      split at h
      · rename_i e
        subst e
        rw [if_pos rfl]
        refine ⟨by simp, ?_⟩
        simp only [Int.toNat_zero, Nat.zero_add, List.drop_succ_cons, List.drop_zero]
        exact lastUp_none (by have := lastUp_ge b l; omega)
      · omega
theorem lastUp_mem {c : UInt8} {s : List UInt8} (h : c ∈ s) : 0 ≤ lastUp c s := by
  have := lastUp_ge c s
  rcases Int.lt_or_le (lastUp c s) 0 with h1 | h1
  · exact absurd h (lastUp_none (by omega))
  · exact h1
theorem lastUp_at {c : UInt8} {a b : List UInt8} (h : c ∉ b) : lastUp c (a ++ c :: b) = a.length := by
  have h0 : 0 ≤ lastUp c (a ++ c :: b) := lastUp_mem (by simp)
  induction a with
  | nil =>
    simp only [List.nil_append, lastUp]
    rw [if_neg]
    · simp
    · intro h1
      obtain ⟨h2, _⟩ := lastUp_spec h1
      apply h
      rw [h2]; simp
  | cons x a ih =>
    have h1 : 0 ≤ lastUp c (a ++ c :: b) := lastUp_mem (by simp)
    simp only [List.cons_append, lastUp]
    rw [if_pos h1, ih h1]; simp
theorem idxB_le {c : UInt8} {a b : List UInt8} (h : c ∉ b) : idxB c (a ++ b) ≤ a.length := by
  unfold idxB
  split
  · rename_i hlt
    have : ∀ a : List UInt8, upTo c (a ++ b) < (a ++ b).length → upTo c (a ++ b) ≤ a.length := by
      intro a
      induction a with
      | nil =>
        intro hlt
        exfalso
        have : ∀ l : List UInt8, c ∉ l → upTo c l = l.length := by
          intro l
          induction l with
          | nil => intro _; rfl
          | cons x r ih =>
            intro hm
            simp only [List.mem_cons, not_or] at hm
            simp only [upTo]; rw [if_neg (fun e => hm.1 e.symm), ih hm.2]; rfl
        rw [List.nil_append, this b h] at hlt
        omega
      | cons x r ih =>
        intro hlt
        simp only [List.cons_append, upTo] at hlt ⊢
        split
        · simp
        · rename_i hx
          rw [if_neg hx] at hlt
          have := ih (by simp only [List.length_cons] at hlt; omega)
          simp; omega
    have := this a hlt
    omega
  · omega
theorem cut_yes {s : List UInt8} (h : cutHas s = true) : s = cutName s ++ 58 :: cutPort s ∧ (cutName s).length = (lastUp 58 s).toNat := by
  simp only [cutHas, decide_eq_true_eq] at h
  have h1 : cutHas s = true := by simp [cutHas, h]
  have hl := lastUp_lt 58 s
  simp only [cutName, cutPort, h1, if_true]
  exact ⟨(lastUp_spec h.2).1, by simp; omega⟩
theorem cut_no {s : List UInt8} (h : cutHas s = false) : cutName s = s ∧ cutPort s = [] := by simp [cutName, cutPort, h]

theorem all_dig_mem {d : UInt8} (hd : isDig 10 d = false) {p : List UInt8} (h : p.all (isDig 10) = true) : d ∉ p := fun hm => by
  have := List.all_eq_true.1 h d hm
  rw [hd] at this; cases this
theorem num_form {p : List UInt8} {most : Int} (h : ¬ p.all (isDig 10) = true) : numErr 10 most p = 3 := by
  have : p ≠ [] := by rintro rfl; simp at h
  simp [numErr, this, h]
/-- A name that is cut off is the one that the text begins with. -/
theorem cut_len {s : List UInt8} (h : nameS (cutName s) = true) : (cutHas s = false ∧ nameLen s = s.length) ∨ (cutHas s = true ∧ nameLen s = (cutName s).length ∧ s = cutName s ++ 58 :: cutPort s) := by
  cases hc : cutHas s with
  | false =>
    have e := (cut_no hc).1
    rw [e] at h
    have := name_len (t := []) h (.inl rfl)
    rw [List.append_nil] at this
    exact .inl ⟨rfl, this⟩
  | true =>
    have e := (cut_yes hc).1
    have := name_len h (.inr ⟨cutPort s, rfl⟩)
    rw [← e] at this
    exact .inr ⟨rfl, this, e⟩
theorem host_none {s : List UInt8} (h0 : s ≠ []) (h : nameLen s = 0) : hostErr s = 3 := by
  have hn : nameS (cutName s) = false := by
    rw [← Bool.not_eq_true]; intro hn
    have hne : nameS [] = false := by decide
    rcases cut_len hn with ⟨_, h1⟩ | ⟨_, h1, h2⟩
    · have : s.length = 0 := by omega
      exact h0 (List.length_eq_zero_iff.1 this)
    · have : cutName s = [] := List.length_eq_zero_iff.1 (by omega)
      rw [this, hne] at hn; cases hn
  simp [hostErr, h0, hn]
theorem host_sign {s : List UInt8} (h : nameLen s < s.length) (hc : s.getD (nameLen s) 0 ≠ 58) : hostErr s = 3 := by
  have h0 : s ≠ [] := by rintro rfl; simp at h
  have hn : nameS (cutName s) = false := by
    rw [← Bool.not_eq_true]; intro hn
    rcases cut_len hn with ⟨_, h1⟩ | ⟨_, h1, h2⟩
    · omega
    · apply hc
      have e : s.getD (cutName s).length 0 = (cutName s ++ 58 :: cutPort s).getD (cutName s).length 0 := by rw [← h2]
      rw [h1, e, getD_append_ge 0 (Nat.le_refl _)]; simp
  simp [hostErr, h0, hn]
theorem host_whole {s : List UInt8} (h0 : s ≠ []) (h : nameLen s = s.length) : hostErr s = 0 ∧ cutHas s = false ∧ cutName s = s := by
  have hl : 0 < s.length := List.length_pos_iff.2 h0
  have hn := (name_take (s := s) (by omega)).2
  rw [h, List.take_length] at hn
  have hc : cutHas s = false := by
    rw [← Bool.not_eq_true]; intro hc
    obtain ⟨e, hlen⟩ := cut_yes hc
    simp only [cutHas, decide_eq_true_eq] at hc
    by_cases hlit : litS s = true
    · obtain ⟨m, h1, h2, e2⟩ := lit_form.1 hlit
      have hm : (93 : UInt8) ∉ 91 :: m := by
        simp only [List.mem_cons, not_or]
        refine ⟨by decide, fun hm => ?_⟩
        have := List.all_eq_true.1 h2 _ hm
        revert this; decide
      have hu : upTo 93 s = m.length + 1 := by
        have : ∀ l : List UInt8, 93 ∉ l → upTo 93 (l ++ [93]) = l.length := by
          intro l
          induction l with
          | nil => intro _; simp [upTo]
          | cons x r ih =>
            intro hx
            simp only [List.mem_cons, not_or] at hx
            simp only [List.cons_append, upTo]; rw [if_neg (fun e => hx.1 e.symm), ih hx.2]; rfl
        have := this (91 :: m) hm
        rw [e2]; simpa using this
      have hls : s.length = m.length + 2 := by rw [e2]; simp
      have hi : idxB 93 s = ((m.length + 1 : Nat) : Int) := by unfold idxB; rw [hu, if_pos (by omega)]
      rw [hi] at hc
      have hlu := lastUp_lt 58 s
      have e3 : lastUp 58 s = ((m.length + 1 : Nat) : Int) := by omega
      have e4 : s.getD (m.length + 1) 0 = 58 := by
        have : (cutName s).length = m.length + 1 := by omega
        conv => lhs; rw [e]
        rw [← this, getD_append_ge 0 (Nat.le_refl _)]; simp
      have e5 : s.getD (m.length + 1) 0 = 93 := by
        rw [e2, List.getD_cons_succ, getD_append_ge 0 (Nat.le_refl _)]; simp
      rw [e4] at e5; revert e5; decide
    · simp only [nameS, Bool.or_eq_true] at hn
      have hr := hn.resolve_right hlit
      simp only [regS, Bool.and_eq_true] at hr
      exact reg_mem (d := 58) (by decide) (by decide) (by decide) hr.2 (by rw [e]; simp)
  have e := (cut_no hc).1
  refine ⟨?_, hc, e⟩
  unfold hostErr
  rw [if_neg h0, e, if_neg (by rw [hn]; simp), if_pos hc]
theorem host_port {s : List UInt8} (h : nameLen s < s.length) (h0 : nameLen s ≠ 0) (hc : s.getD (nameLen s) 0 = 58) :
    (cutHas s = true ∧ nameS (cutName s) = true ∧ cutName s = s.take (nameLen s) ∧ cutPort s = s.drop (nameLen s + 1)) ∨ (hostErr s = 3 ∧ numErr 10 65535 (s.drop (nameLen s + 1)) = 3) := by
  have hs : s ≠ [] := by rintro rfl; simp at h
  have hn := (name_take h0).2
  have e0 : s = s.take (nameLen s) ++ 58 :: s.drop (nameLen s + 1) := by
    have := drop_cons h
    rw [hc] at this
    rw [← this, List.take_append_drop]
  have hlen : (s.take (nameLen s)).length = nameLen s := by simp; omega
  generalize hp : s.drop (nameLen s + 1) = p at *
  by_cases hd : p.all (isDig 10) = true
  · left
    have hl : lastUp 58 s = nameLen s := by
      conv => lhs; rw [e0]
      rw [lastUp_at (all_dig_mem (by decide) hd), hlen]
    have hi : idxB 93 s ≤ nameLen s := by
      conv => lhs; rw [e0]
      have := idxB_le (c := 93) (a := s.take (nameLen s)) (b := 58 :: p) (by
        simp only [List.mem_cons, not_or]
        exact ⟨by decide, all_dig_mem (by decide) hd⟩)
      rw [hlen] at this; exact this
    have hh : cutHas s = true := by simp only [cutHas, decide_eq_true_eq]; omega
    have e1 : cutName s = s.take (nameLen s) := by simp only [cutName, hh, if_true, hl]; congr 1
    have e2 : cutPort s = p := by simp only [cutPort, hh, if_true, hl]; rw [← hp]; congr 1
    exact ⟨hh, by rw [e1]; exact hn, e1, e2⟩
  · right
    have h3 := num_form (most := 65535) hd
    refine ⟨?_, h3⟩
    unfold hostErr
    rw [if_neg hs]
    by_cases hcn : nameS (cutName s) = true
    · rcases cut_len hcn with ⟨_, h1⟩ | ⟨hh, h1, h2⟩
      · omega
      · have e2 : cutPort s = p := by
          have := (cut_yes hh).2
          simp only [cutPort, hh, if_true]
          rw [← hp, h1, this]
        rw [if_neg (by rw [hcn]; simp), if_neg (by rw [hh]; simp), e2, h3, if_neg (by decide), if_neg (by decide)]
    · rw [if_pos (by simpa using hcn)]
end Go.Mdl
