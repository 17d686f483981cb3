/- httpdate: the forms by places. No condition. -/
import Derived.Test.YtnfidlgiaaeleaaHdtM
set_option linter.unusedVariables false
set_option linter.unusedSimpArgs false
namespace Go.Mdl
open Go Go.Abs

theorem part_bad (c : UInt8) (p : Rd) (h : p.bad = true) : (partS c p).bad = true := by
  unfold partS
  (repeat' split) <;> simp [Rd.word, Rd.num, h]
theorem run_bad (pat : List UInt8) (p : Rd) (h : p.bad = true) : (runS pat p).bad = true := by
  unfold runS
  induction pat generalizing p with
  | nil => exact h
  | cons c t ih => exact ih _ (part_bad c p h)
theorem runS_cons (c : UInt8) (t : List UInt8) (p : Rd) : runS (c :: t) p = runS t (partS c p) := rfl
theorem runS_nil (p : Rd) : runS [] p = p := rfl

/-- So many digits. -/
def nOK (w : Nat) (x : List UInt8) : Prop := x.length = w ∧ numErr 10 9999 x = 0
def nVal (x : List UInt8) : Int := numVal 10 9999 x
/-- The place of a text in a list; -1: it is not there. -/
def ixN (l : List (List UInt8)) (s : List UInt8) : Int := idxP (fun w => decide (w = s)) l

theorem isPrefixOf_take {w s : List UInt8} {L : Nat} (h : w.length = L) : w.isPrefixOf s = decide (w = s.take L) := by
  subst h
  rw [Bool.eq_iff_iff, List.isPrefixOf_iff_prefix, decide_eq_true_eq, List.prefix_iff_eq_take]
theorem wHit_uni {l : List (List UInt8)} {L : Nat} (hl : ∀ w ∈ l, w.length = L) (s : List UInt8) : wHit l s = decide (s.take L ∈ l) := by
  rw [Bool.eq_iff_iff, decide_eq_true_eq]
  unfold wHit
  rw [List.any_eq_true]
  constructor
  · rintro ⟨w, hw, h⟩
    have := isPrefixOf_take (s := s) (hl w hw)
    have h2 : w.isPrefixOf s = true := h
    rw [this, decide_eq_true_eq] at h2
    rw [← h2]; exact hw
  · intro h
    exact ⟨_, h, by have := isPrefixOf_take (s := s) (hl _ h); show List.isPrefixOf _ _ = true; rw [this]; simp⟩
theorem wIx_uni {l : List (List UInt8)} {L : Nat} (hl : ∀ w ∈ l, w.length = L) (s : List UInt8) : wIx l s = l.findIdx (fun w => decide (w = s.take L)) := by
  unfold wIx
  induction l with
  | nil => rfl
  | cons w t ih =>
    have e : Lib.hasPrefix s w = decide (w = s.take L) := isPrefixOf_take (hl w (by simp))
    rw [List.findIdx_cons, List.findIdx_cons, e, ih (fun w h => hl w (by simp [h]))]
theorem ixN_mem {l : List (List UInt8)} {s : List UInt8} (h : s ∈ l) : ixN l s = (l.findIdx (fun w => decide (w = s)) : Int) ∧ 0 ≤ ixN l s := by
  have : l.any (fun w => decide (w = s)) = true := by rw [List.any_eq_true]; exact ⟨s, h, by simp⟩
  unfold ixN idxP
  rw [if_pos this]
  exact ⟨rfl, by omega⟩
theorem ixN_not {l : List (List UInt8)} {s : List UInt8} (h : ¬ s ∈ l) : ixN l s = -1 := by
  apply idxP_none
  rw [← Bool.not_eq_true, List.any_eq_true]
  rintro ⟨w, hw, e⟩
  rw [decide_eq_true_eq] at e
  exact h (e ▸ hw)
theorem ixN_ge {l : List (List UInt8)} {s : List UInt8} : 0 ≤ ixN l s ↔ s ∈ l := by
  by_cases h : s ∈ l
  · simp [h, (ixN_mem h).2]
  · simp [h, ixN_not h]
theorem uni_getD {l : List (List UInt8)} {L : Nat} (hl : ∀ w ∈ l, w.length = L) {k : Nat} (h : k < l.length) : (l.getD k []).length = L := by
  apply hl
  rw [List.getD_eq_getElem?_getD, List.getElem?_eq_getElem h]
  exact List.getElem_mem h
/-- One of words of one length. -/
theorem word_uni {l : List (List UInt8)} {L : Nat} (hl : ∀ w ∈ l, w.length = L) (s : List UInt8) :
    (s.take L ∈ l → wdS l s = s.drop L ∧ wdB l s = false ∧ wdN l s = ixN l (s.take L)) ∧ (¬ s.take L ∈ l → wdB l s = true) := by
  have e := wHit_uni hl s
  constructor
  · intro h
    have e1 : wHit l s = true := by rw [e]; simpa using h
    obtain ⟨g1, g2⟩ := ixN_mem h
    have e2 := wIx_uni hl s
    refine ⟨?_, by simp [wdB, e1], by rw [wdN, if_pos e1, e2, g1]⟩
    rw [wdS, if_pos e1]
    congr 1
    apply uni_getD hl
    rw [e2, List.findIdx_lt_length]
    exact ⟨_, h, by simp⟩
  · intro h
    simp [wdB, e, h]
theorem days3_uni : ∀ w ∈ hdDays3, w.length = 3 := by decide
theorem months_uni : ∀ w ∈ hdMonths, w.length = 3 := by decide
theorem one_uni (c : UInt8) : ∀ w ∈ [[c]], w.length = 1 := by simp
theorem gmt_uni : ∀ w ∈ [([71, 77, 84] : List UInt8)], w.length = 3 := by decide
theorem num_take {w : Nat} (s : List UInt8) : (nOK w (s.take w) → nmS w s = s.drop w ∧ nmB w s = false ∧ nmN w s = nVal (s.take w)) ∧ (¬ nOK w (s.take w) → nmB w s = true) := by
  unfold nOK
  rw [List.length_take]
  constructor
  · rintro ⟨h1, h2⟩
    have h3 : ¬ s.length < w := by omega
    exact ⟨by simp [nmS, h3], by simp [nmB, h3, h2], by simp [nmN, h3, nVal]⟩
  · intro h
    unfold nmB
    by_cases h3 : s.length < w
    · simp [h3]
    · have : ¬ numErr 10 9999 (s.take w) = 0 := fun e => h ⟨by omega, e⟩
      simp [this]

theorem st_w (p : Rd) (hp : p.bad = false) : (p.s.take 3 ∈ hdDays3 ∧ partS 119 p = { p with s := p.s.drop 3, week := ixN hdDays3 (p.s.take 3) }) ∨ (¬ p.s.take 3 ∈ hdDays3 ∧ (partS 119 p).bad = true) := by
  obtain ⟨h1, h2⟩ := word_uni days3_uni p.s
  by_cases h : p.s.take 3 ∈ hdDays3
  · obtain ⟨a, b, c⟩ := h1 h
    left; refine ⟨h, ?_⟩
    simp [partS, Rd.word, a, b, c, hp]
  · right; exact ⟨h, by simp [partS, Rd.word, h2 h]⟩
theorem st_m (p : Rd) (hp : p.bad = false) : (p.s.take 3 ∈ hdMonths ∧ partS 109 p = { p with s := p.s.drop 3, mo := ixN hdMonths (p.s.take 3) + 1 }) ∨ (¬ p.s.take 3 ∈ hdMonths ∧ (partS 109 p).bad = true) := by
  obtain ⟨h1, h2⟩ := word_uni months_uni p.s
  by_cases h : p.s.take 3 ∈ hdMonths
  · obtain ⟨a, b, c⟩ := h1 h
    left; refine ⟨h, ?_⟩
    simp [partS, Rd.word, a, b, c, hp]
  · right; exact ⟨h, by simp [partS, Rd.word, h2 h]⟩
theorem st_z (p : Rd) (hp : p.bad = false) : (p.s.take 3 = [71, 77, 84] ∧ partS 122 p = { p with s := p.s.drop 3 }) ∨ (¬ p.s.take 3 = [71, 77, 84] ∧ (partS 122 p).bad = true) := by
  obtain ⟨h1, h2⟩ := word_uni gmt_uni p.s
  rw [List.mem_singleton] at h1 h2
  by_cases h : p.s.take 3 = [71, 77, 84]
  · obtain ⟨a, b, c⟩ := h1 h
    left; refine ⟨h, ?_⟩
    simp [partS, Rd.word, a, b, hp]
  · right; exact ⟨h, by simp [partS, Rd.word, h2 h]⟩
theorem st_c (c : UInt8) (hc : c = 32 ∨ c = 44 ∨ c = 45) (p : Rd) (hp : p.bad = false) : (p.s.take 1 = [c] ∧ partS c p = { p with s := p.s.drop 1 }) ∨ (¬ p.s.take 1 = [c] ∧ (partS c p).bad = true) := by
  obtain ⟨h1, h2⟩ := word_uni (one_uni c) p.s
  rw [List.mem_singleton] at h1 h2
  by_cases h : p.s.take 1 = [c]
  · obtain ⟨a, b, _⟩ := h1 h
    left; refine ⟨h, ?_⟩
    rcases hc with rfl | rfl | rfl <;> simp [partS, Rd.word, a, b, hp]
  · right; refine ⟨h, ?_⟩
    have := h2 h
    rcases hc with rfl | rfl | rfl <;> simp [partS, Rd.word, this]
theorem st_d (p : Rd) (hp : p.bad = false) : (nOK 2 (p.s.take 2) ∧ partS 100 p = { p with s := p.s.drop 2, d := nVal (p.s.take 2) }) ∨ (¬ nOK 2 (p.s.take 2) ∧ (partS 100 p).bad = true) := by
  obtain ⟨h1, h2⟩ := num_take (w := 2) p.s
  by_cases h : nOK 2 (p.s.take 2)
  · obtain ⟨a, b, c⟩ := h1 h
    left; exact ⟨h, by simp [partS, Rd.num, a, b, c, hp]⟩
  · right; exact ⟨h, by simp [partS, Rd.num, h2 h]⟩
theorem st_y (p : Rd) (hp : p.bad = false) : (nOK 4 (p.s.take 4) ∧ partS 121 p = { p with s := p.s.drop 4, y := nVal (p.s.take 4) }) ∨ (¬ nOK 4 (p.s.take 4) ∧ (partS 121 p).bad = true) := by
  obtain ⟨h1, h2⟩ := num_take (w := 4) p.s
  by_cases h : nOK 4 (p.s.take 4)
  · obtain ⟨a, b, c⟩ := h1 h
    left; exact ⟨h, by simp [partS, Rd.num, a, b, c, hp]⟩
  · right; exact ⟨h, by simp [partS, Rd.num, h2 h]⟩
theorem st_k (p : Rd) (hp : p.bad = false) : (nOK 2 (p.s.take 2) ∧ partS 107 p = { p with s := p.s.drop 2, y := nVal (p.s.take 2), two := true }) ∨ (¬ nOK 2 (p.s.take 2) ∧ (partS 107 p).bad = true) := by
  obtain ⟨h1, h2⟩ := num_take (w := 2) p.s
  by_cases h : nOK 2 (p.s.take 2)
  · obtain ⟨a, b, c⟩ := h1 h
    left; exact ⟨h, by simp [partS, Rd.num, a, b, c, hp]⟩
  · right; exact ⟨h, by simp [partS, Rd.num, h2 h]⟩
/-- The day with a blank. -/
def bOK (x : List UInt8) : Prop := x.take 1 = [32] ∧ nOK 1 ((x.drop 1).take 1) ∨ ¬ x.take 1 = [32] ∧ nOK 2 (x.take 2)
def bVal (x : List UInt8) : Int := if x.take 1 = [32] then nVal ((x.drop 1).take 1) else nVal (x.take 2)
theorem blank_take (s : List UInt8) : Lib.hasPrefix s [32] = decide (s.take 1 = [32]) := by
  have := isPrefixOf_take (s := s) (w := [32]) (L := 1) rfl
  show List.isPrefixOf [32] s = _
  rw [this, Bool.eq_iff_iff, decide_eq_true_eq, decide_eq_true_eq]
  exact eq_comm
theorem st_b (p : Rd) (hp : p.bad = false) : (bOK p.s ∧ partS 98 p = { p with s := p.s.drop 2, d := bVal p.s }) ∨ (¬ bOK p.s ∧ (partS 98 p).bad = true) := by
  have hb := blank_take p.s
  by_cases hc : p.s.take 1 = [32]
  · have e1 : blS p.s = p.s.drop 1 := by simp [blS, hb, hc]
    have e2 : blW p.s = 1 := by simp [blW, hb, hc]
    obtain ⟨h1, h2⟩ := num_take (w := 1) (p.s.drop 1)
    by_cases h : nOK 1 ((p.s.drop 1).take 1)
    · obtain ⟨a, b, c⟩ := h1 h
      left; exact ⟨Or.inl ⟨hc, h⟩, by simp [partS, e1, e2, a, b, c, hp, bVal, hc, -List.drop_one]⟩
    · right; exact ⟨by simp [bOK, hc, h, -List.drop_one], by simp [partS, e1, e2, h2 h, -List.drop_one]⟩
  · have e1 : blS p.s = p.s := by simp [blS, hb, hc]
    have e2 : blW p.s = 2 := by simp [blW, hb, hc]
    obtain ⟨h1, h2⟩ := num_take (w := 2) p.s
    by_cases h : nOK 2 (p.s.take 2)
    · obtain ⟨a, b, c⟩ := h1 h
      left; exact ⟨Or.inr ⟨hc, h⟩, by simp [partS, e1, e2, a, b, c, hp, bVal, hc]⟩
    · right; exact ⟨by simp [bOK, hc, h], by simp [partS, e1, e2, h2 h]⟩
/-- A time of day. -/
def tOK (x : List UInt8) : Prop := nOK 2 (x.take 2) ∧ (x.drop 2).take 1 = [58] ∧ nOK 2 ((x.drop 3).take 2) ∧ (x.drop 5).take 1 = [58] ∧ nOK 2 ((x.drop 6).take 2)
theorem st_t (p : Rd) (hp : p.bad = false) : (tOK p.s ∧ partS 116 p = { p with s := p.s.drop 8, h := nVal (p.s.take 2), mi := nVal ((p.s.drop 3).take 2), se := nVal ((p.s.drop 6).take 2) }) ∨ (¬ tOK p.s ∧ (partS 116 p).bad = true) := by
  have w1 : ∀ x : List UInt8, (x.take 1 = [58] → wdS [[58]] x = x.drop 1 ∧ wdB [[58]] x = false) ∧ (¬ x.take 1 = [58] → wdB [[58]] x = true) := by
    intro x
    obtain ⟨h1, h2⟩ := word_uni (one_uni 58) x
    rw [List.mem_singleton] at h1 h2
    exact ⟨fun h => ⟨(h1 h).1, (h1 h).2.1⟩, h2⟩
  unfold tOK
  by_cases a1 : nOK 2 (p.s.take 2)
  rotate_left
  · right; exact ⟨fun h => a1 h.1, by simp [partS, (num_take (w := 2) p.s).2 a1]⟩
  obtain ⟨b1, c1, d1⟩ := (num_take (w := 2) p.s).1 a1
  by_cases a2 : (p.s.drop 2).take 1 = [58]
  rotate_left
  · right; exact ⟨fun h => a2 h.2.1, by simp [partS, b1, (w1 _).2 a2]⟩
  obtain ⟨b2, c2⟩ := (w1 _).1 a2
  have e2 : (p.s.drop 2).drop 1 = p.s.drop 3 := by rw [List.drop_drop]
  rw [e2] at b2
  by_cases a3 : nOK 2 ((p.s.drop 3).take 2)
  rotate_left
  · right; exact ⟨fun h => a3 h.2.2.1, by simp [partS, b1, b2, (num_take (w := 2) _).2 a3]⟩
  obtain ⟨b3, c3, d3⟩ := (num_take (w := 2) (p.s.drop 3)).1 a3
  have e3 : (p.s.drop 3).drop 2 = p.s.drop 5 := by rw [List.drop_drop]
  rw [e3] at b3
  by_cases a4 : (p.s.drop 5).take 1 = [58]
  rotate_left
  · right; exact ⟨fun h => a4 h.2.2.2.1, by simp [partS, b1, b2, b3, (w1 _).2 a4]⟩
  obtain ⟨b4, c4⟩ := (w1 _).1 a4
  have e4 : (p.s.drop 5).drop 1 = p.s.drop 6 := by rw [List.drop_drop]
  rw [e4] at b4
  by_cases a5 : nOK 2 ((p.s.drop 6).take 2)
  rotate_left
  · right; exact ⟨fun h => a5 h.2.2.2.2, by simp [partS, b1, b2, b3, b4, (num_take (w := 2) _).2 a5]⟩
  obtain ⟨b5, c5, d5⟩ := (num_take (w := 2) (p.s.drop 6)).1 a5
  have e5 : (p.s.drop 6).drop 2 = p.s.drop 8 := by rw [List.drop_drop]
  rw [e5] at b5
  left; exact ⟨⟨a1, a2, a3, a4, a5⟩, by simp [partS, b1, b2, b3, b4, b5, c1, c2, c3, c4, c5, d1, d3, d5, hp]⟩

end Go.Mdl
