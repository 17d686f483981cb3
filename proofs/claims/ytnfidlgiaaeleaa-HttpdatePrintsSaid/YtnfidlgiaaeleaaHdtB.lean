/- httpdate: dates come back from their texts. No condition. -/
import Derived.Test.YtnfidlgiaaeleaaHdtN
set_option linter.unusedVariables false
set_option linter.unusedSimpArgs false
namespace Go.Mdl
open Go Go.Abs

theorem sign_val : ∀ n, n < 10 → digB (signN n) = (n : Int) ∧ isDig 10 (signN n) = true := by decide
theorem digsF_ok : ∀ f n, n < 2 ^ f → 1 ≤ f → numV 10 (digsF 10 f n) = (n : Int) ∧ (digsF 10 f n).all (isDig 10) = true
  | 0, _, _, h => by omega
  | f + 1, n, hn, _ => by
    simp only [digsF]
    by_cases e : n < 10
    · rw [if_pos e]
      obtain ⟨a, b⟩ := sign_val n e
      exact ⟨by simp [numV, a], by simp [b]⟩
    · rw [if_neg e]
      have g := half_lt (b := 10) (by omega) hn
      have hf : 1 ≤ f := by
        cases f with
        | zero => simp at g; omega
        | succ f => omega
      obtain ⟨a, b⟩ := digsF_ok f (n / 10) g hf
      obtain ⟨c, d⟩ := sign_val (n % 10) (by omega)
      refine ⟨by rw [numV_snoc, a, c]; omega, by rw [List.all_append, b]; simp [d]⟩
theorem digsF_le : ∀ f n k, n < 10 ^ k → 1 ≤ k → (digsF 10 f n).length ≤ k
  | 0, _, k, _, _ => by simp [digsF]
  | f + 1, n, k, hn, hk => by
    simp only [digsF]
    by_cases e : n < 10
    · rw [if_pos e]; simpa using hk
    · rw [if_neg e, List.length_append, List.length_singleton]
      obtain ⟨j, rfl⟩ : ∃ j, k = j + 1 := ⟨k - 1, by omega⟩
      have hj : 1 ≤ j := by
        cases j with
        | zero => simp at hn; omega
        | succ j => omega
      rw [Nat.pow_succ] at hn
      have := digsF_le f (n / 10) j (by omega) hj
      omega
theorem numV_zeros (k : Nat) (s : List UInt8) : numV 10 (List.replicate k 48 ++ s) = numV 10 s := by
  induction k with
  | zero => simp
  | succ k ih =>
    rw [List.replicate_succ, List.cons_append, numV_cons, ih]
    have : digB 48 = 0 := by decide
    simp [this]
theorem pad_ok {n w : Nat} (hw : 1 ≤ w ∧ w ≤ 4) (hn : n < 10 ^ w) : nOK w (padS n w) ∧ nVal (padS n w) = n := by
  have h4 : n < 10 ^ 4 := Nat.lt_of_lt_of_le hn (Nat.pow_le_pow_right (by omega) hw.2)
  have h70 : n < 2 ^ 70 := Nat.lt_trans h4 (by decide)
  obtain ⟨a, b⟩ := digsF_ok 70 n h70 (by omega)
  have c := digsF_le 70 n w hn hw.1
  have d : 1 ≤ (digsF 10 70 n).length := digsF_pos 69 n
  have e : padS n w = List.replicate (w - (digsF 10 70 n).length) 48 ++ digsF 10 70 n := by
    unfold padS textI digs
    rw [if_neg (by omega), if_neg (by omega), Int.natAbs_natCast]
    congr 2
    omega
  have hv : numV 10 (padS n w) = n := by rw [e, numV_zeros, a]
  have ha : (padS n w).all (isDig 10) = true := by
    rw [e, List.all_append, b, Bool.and_true, List.all_replicate]
    split
    · rfl
    · decide
  have hl : (padS n w).length = w := by rw [e, List.length_append, List.length_replicate]; omega
  have hne : ¬ padS n w = [] := fun h => by rw [h] at hl; simp at hl; omega
  obtain ⟨g1, g2⟩ := num_good (b := 10) (most := 9999) hne ha (by rw [hv]; omega)
  exact ⟨⟨hl, g1⟩, by rw [nVal, g2, hv]⟩
theorem pad_okI {n : Int} {w : Nat} (hw : 1 ≤ w ∧ w ≤ 4) (h0 : 0 ≤ n) (hn : n < 10 ^ w) : nOK w (padS n w) ∧ nVal (padS n w) = n := by
  obtain ⟨k, rfl⟩ : ∃ k : Nat, n = k := ⟨n.toNat, by omega⟩
  have : k < 10 ^ w := by exact_mod_cast hn
  exact pad_ok hw this

/-! ### texts -/
def clkS (d : Dt) : List UInt8 := padS d.h 2 ++ [58] ++ padS d.mi 2 ++ [58] ++ padS d.se 2
def pieceS (d : Dt) (w : Int) (c : UInt8) : List UInt8 :=
  if c = 119 then (hdDays.getD w.toNat []).take 3
  else if c = 100 then padS d.d 2
  else if c = 109 then hdMonths.getD (d.mo - 1).toNat []
  else if c = 121 then padS d.y 4
  else if c = 116 then clkS d
  else if c = 122 then [71, 77, 84]
  else [c]
def fixS (d : Dt) (w : Int) (pat : List UInt8) : List UInt8 := (pat.map (pieceS d w)).flatten
def writeS (d : Dt) (w form : Int) : List UInt8 :=
  if form = 1 then (hdDays.getD w.toNat []).take 3 ++ [44, 32] ++ padS d.d 2 ++ [32] ++ hdMonths.getD (d.mo - 1).toNat [] ++ [32] ++ padS d.y 4 ++ [32] ++ clkS d ++ [32, 71, 77, 84]
  else if form = 2 then hdDays.getD w.toNat [] ++ [44, 32] ++ padS d.d 2 ++ [45] ++ hdMonths.getD (d.mo - 1).toNat [] ++ [45] ++ padS (d.y % 100) 2 ++ [32] ++ clkS d ++ [32, 71, 77, 84]
  else (hdDays.getD w.toNat []).take 3 ++ [32] ++ hdMonths.getD (d.mo - 1).toNat [] ++ [32] ++ (if d.d < 10 then 32 :: padS d.d 1 else padS d.d 1) ++ [32] ++ clkS d ++ [32] ++ padS d.y 4
theorem fix_write (d : Dt) (w : Int) : fixS d w hdPat1 = writeS d w 1 := by
  simp [fixS, writeS, hdPat1, pieceS]

theorem len2 {l : List UInt8} (h : l.length = 2) : ∃ a b, l = [a, b] := by
  rcases l with _ | ⟨a, _ | ⟨b, _ | ⟨c, l⟩⟩⟩ <;> simp at h
  exact ⟨a, b, rfl⟩
theorem len3 {l : List UInt8} (h : l.length = 3) : ∃ a b c, l = [a, b, c] := by
  rcases l with _ | ⟨a, _ | ⟨b, _ | ⟨c, _ | ⟨d, l⟩⟩⟩⟩ <;> simp at h
  exact ⟨a, b, c, rfl⟩
theorem len4 {l : List UInt8} (h : l.length = 4) : ∃ a b c d, l = [a, b, c, d] := by
  rcases l with _ | ⟨a, _ | ⟨b, _ | ⟨c, _ | ⟨d, _ | ⟨e, l⟩⟩⟩⟩⟩ <;> simp at h
  exact ⟨a, b, c, d, rfl⟩
theorem txt1 {w m dd yy hh mm ss : List UInt8} (lw : w.length = 3) (lm : m.length = 3) (ld : dd.length = 2) (ly : yy.length = 4) (lh : hh.length = 2) (lmm : mm.length = 2) (ls : ss.length = 2)
    (cw : w ∈ hdDays3) (cm : m ∈ hdMonths) (cd : nOK 2 dd) (cy : nOK 4 yy) (ch : nOK 2 hh) (cmm : nOK 2 mm) (cs : nOK 2 ss) :
    C1 (w ++ [44, 32] ++ dd ++ [32] ++ m ++ [32] ++ yy ++ [32] ++ (hh ++ [58] ++ mm ++ [58] ++ ss) ++ [32, 71, 77, 84]) ∧
    v1 (w ++ [44, 32] ++ dd ++ [32] ++ m ++ [32] ++ yy ++ [32] ++ (hh ++ [58] ++ mm ++ [58] ++ ss) ++ [32, 71, 77, 84]) = ⟨[], nVal yy, ixN hdMonths m + 1, nVal dd, nVal hh, nVal mm, nVal ss, ixN hdDays3 w, false, false⟩ := by
  obtain ⟨w1, w2, w3, rfl⟩ := len3 lw
  obtain ⟨m1, m2, m3, rfl⟩ := len3 lm
  obtain ⟨d1, d2, rfl⟩ := len2 ld
  obtain ⟨y1, y2, y3, y4, rfl⟩ := len4 ly
  obtain ⟨h1, h2, rfl⟩ := len2 lh
  obtain ⟨n1, n2, rfl⟩ := len2 lmm
  obtain ⟨s1, s2, rfl⟩ := len2 ls
  simp only [C1, v1, tOK, List.cons_append, List.nil_append, List.append_nil, List.append_assoc, List.drop_succ_cons, List.drop_zero, List.take_succ_cons, List.take_zero, cw, cm, cd, cy, ch, cmm, cs, and_self]
theorem txt3 {w m dd yy hh mm ss : List UInt8} (lw : w.length = 3) (lm : m.length = 3) (ld : dd.length = 2) (ly : yy.length = 4) (lh : hh.length = 2) (lmm : mm.length = 2) (ls : ss.length = 2)
    (cw : w ∈ hdDays3) (cm : m ∈ hdMonths) (cd : bOK dd) (cy : nOK 4 yy) (ch : nOK 2 hh) (cmm : nOK 2 mm) (cs : nOK 2 ss) :
    C3 (w ++ [32] ++ m ++ [32] ++ dd ++ [32] ++ (hh ++ [58] ++ mm ++ [58] ++ ss) ++ [32] ++ yy) ∧
    v3 (w ++ [32] ++ m ++ [32] ++ dd ++ [32] ++ (hh ++ [58] ++ mm ++ [58] ++ ss) ++ [32] ++ yy) = ⟨[], nVal yy, ixN hdMonths m + 1, bVal dd, nVal hh, nVal mm, nVal ss, ixN hdDays3 w, false, false⟩ := by
  obtain ⟨w1, w2, w3, rfl⟩ := len3 lw
  obtain ⟨m1, m2, m3, rfl⟩ := len3 lm
  obtain ⟨d1, d2, rfl⟩ := len2 ld
  obtain ⟨y1, y2, y3, y4, rfl⟩ := len4 ly
  obtain ⟨h1, h2, rfl⟩ := len2 lh
  obtain ⟨n1, n2, rfl⟩ := len2 lmm
  obtain ⟨s1, s2, rfl⟩ := len2 ls
  simp only [bOK, List.take_succ_cons, List.take_zero, List.drop_succ_cons, List.drop_zero] at cd
  simp only [C3, v3, tOK, bOK, bVal, List.cons_append, List.nil_append, List.append_nil, List.append_assoc, List.drop_succ_cons, List.drop_zero, List.take_succ_cons, List.take_zero, cw, cm, cd, cy, ch, cmm, cs, and_self]
theorem txt2 {w m dd yy hh mm ss : List UInt8} (lm : m.length = 3) (ld : dd.length = 2) (ly : yy.length = 2) (lh : hh.length = 2) (lmm : mm.length = 2) (ls : ss.length = 2)
    (cw : w ∈ hdDays) (cm : m ∈ hdMonths) (cd : nOK 2 dd) (cy : nOK 2 yy) (ch : nOK 2 hh) (cmm : nOK 2 mm) (cs : nOK 2 ss) :
    C2 (w ++ [44, 32] ++ dd ++ [45] ++ m ++ [45] ++ yy ++ [32] ++ (hh ++ [58] ++ mm ++ [58] ++ ss) ++ [32, 71, 77, 84]) ∧
    v2 (w ++ [44, 32] ++ dd ++ [45] ++ m ++ [45] ++ yy ++ [32] ++ (hh ++ [58] ++ mm ++ [58] ++ ss) ++ [32, 71, 77, 84]) = ⟨[], nVal yy, ixN hdMonths m + 1, nVal dd, nVal hh, nVal mm, nVal ss, ixN hdDays w, true, false⟩ := by
  obtain ⟨m1, m2, m3, rfl⟩ := len3 lm
  obtain ⟨d1, d2, rfl⟩ := len2 ld
  obtain ⟨y1, y2, rfl⟩ := len2 ly
  obtain ⟨h1, h2, rfl⟩ := len2 lh
  obtain ⟨n1, n2, rfl⟩ := len2 lmm
  obtain ⟨s1, s2, rfl⟩ := len2 ls
  simp only [List.cons_append, List.nil_append, List.append_nil, List.append_assoc]
  obtain ⟨e1, e2, e3, _⟩ := day_at cw (32 :: d1 :: d2 :: 45 :: m1 :: m2 :: m3 :: 45 :: y1 :: y2 :: 32 :: h1 :: h2 :: 58 :: n1 :: n2 :: 58 :: s1 :: s2 :: [32, 71, 77, 84])
  simp only [C2, v2, tOK, e1, e2, e3, List.drop_succ_cons, List.drop_zero, List.take_succ_cons, List.take_zero, cm, cd, cy, ch, cmm, cs, and_self]
theorem day_cases {k : Nat} (h : k < 7) : hdDays.getD k [] ∈ hdDays ∧ (hdDays.getD k []).take 3 ∈ hdDays3 ∧ ((hdDays.getD k []).take 3).length = 3 ∧ ixN hdDays (hdDays.getD k []) = k ∧ ixN hdDays3 ((hdDays.getD k []).take 3) = k ∧ 5 ≤ (hdDays.getD k []).length ∧ (hdDays.getD k []).getD 3 0 ≠ 44 ∧ (hdDays.getD k []).getD 3 0 ≠ 32 := by
  have : k = 0 ∨ k = 1 ∨ k = 2 ∨ k = 3 ∨ k = 4 ∨ k = 5 ∨ k = 6 := by omega
  rcases this with rfl | rfl | rfl | rfl | rfl | rfl | rfl <;> decide
theorem month_cases {k : Nat} (h : k < 12) : hdMonths.getD k [] ∈ hdMonths ∧ (hdMonths.getD k []).length = 3 ∧ ixN hdMonths (hdMonths.getD k []) = k := by
  have : k = 0 ∨ k = 1 ∨ k = 2 ∨ k = 3 ∨ k = 4 ∨ k = 5 ∨ k = 6 ∨ k = 7 ∨ k = 8 ∨ k = 9 ∨ k = 10 ∨ k = 11 := by omega
  rcases this with rfl | rfl | rfl | rfl | rfl | rfl | rfl | rfl | rfl | rfl | rfl | rfl <;> decide
theorem b_cases : ∀ k : Nat, k < 32 → 1 ≤ k → (if (k : Int) < 10 then 32 :: padS k 1 else padS k 1).length = 2 ∧ ((if (k : Int) < 10 then 32 :: padS k 1 else padS k 1).take 1 = [32] ∧ (((if (k : Int) < 10 then 32 :: padS k 1 else padS k 1).drop 1).take 1).length = 1 ∧ numErr 10 9999 (((if (k : Int) < 10 then 32 :: padS k 1 else padS k 1).drop 1).take 1) = 0 ∨ ¬ (if (k : Int) < 10 then 32 :: padS k 1 else padS k 1).take 1 = [32] ∧ ((if (k : Int) < 10 then 32 :: padS k 1 else padS k 1).take 2).length = 2 ∧ numErr 10 9999 ((if (k : Int) < 10 then 32 :: padS k 1 else padS k 1).take 2) = 0) ∧ bVal (if (k : Int) < 10 then 32 :: padS k 1 else padS k 1) = k := by
  decide +kernel
/-- A date whose parts are in their ranges. -/
def dtIn (d : Dt) (w : Int) : Prop := (0 ≤ w ∧ w < 7) ∧ (1 ≤ d.y ∧ d.y ≤ 9999) ∧ (1 ≤ d.mo ∧ d.mo ≤ 12) ∧ (1 ≤ d.d ∧ d.d ≤ 31) ∧ (0 ≤ d.h ∧ d.h < 24) ∧ (0 ≤ d.mi ∧ d.mi < 60) ∧ (0 ≤ d.se ∧ d.se < 60)
theorem back1 {d : Dt} {w : Int} (h : dtIn d w) : C1 (writeS d w 1) ∧ v1 (writeS d w 1) = ⟨[], d.y, d.mo, d.d, d.h, d.mi, d.se, w, false, false⟩ := by
  obtain ⟨hw, hy, hmo, hd, hh, hmi, hse⟩ := h
  obtain ⟨k, rfl⟩ : ∃ k : Nat, w = k := ⟨w.toNat, by omega⟩
  obtain ⟨a1, a2, a3, a4, a5, a6, a7, a8⟩ := day_cases (k := k) (by omega)
  obtain ⟨b1, b2, b3⟩ := month_cases (k := (d.mo - 1).toNat) (by omega)
  obtain ⟨c1, c2⟩ := pad_okI (n := d.d) (w := 2) (by omega) (by omega) (by omega)
  obtain ⟨c3, c4⟩ := pad_okI (n := d.y) (w := 4) (by omega) (by omega) (by omega)
  obtain ⟨c5, c6⟩ := pad_okI (n := d.h) (w := 2) (by omega) (by omega) (by omega)
  obtain ⟨c7, c8⟩ := pad_okI (n := d.mi) (w := 2) (by omega) (by omega) (by omega)
  obtain ⟨c9, c10⟩ := pad_okI (n := d.se) (w := 2) (by omega) (by omega) (by omega)
  unfold writeS clkS
  rw [if_pos rfl, Int.toNat_natCast]
  obtain ⟨t1, t2⟩ := txt1 a3 b2 c1.1 c3.1 c5.1 c7.1 c9.1 a2 b1 c1 c3 c5 c7 c9
  refine ⟨t1, ?_⟩
  rw [show ((2 : Nat) : Int) = 2 from rfl, show ((4 : Nat) : Int) = 4 from rfl] at *
  rw [t2, c2, c4, c6, c8, c10, a5, b3]
  congr 1; omega
theorem back2 {d : Dt} {w : Int} (h : dtIn d w) : ¬ C1 (writeS d w 2) ∧ C2 (writeS d w 2) ∧ v2 (writeS d w 2) = ⟨[], d.y % 100, d.mo, d.d, d.h, d.mi, d.se, w, true, false⟩ := by
  obtain ⟨hw, hy, hmo, hd, hh, hmi, hse⟩ := h
  obtain ⟨k, rfl⟩ : ∃ k : Nat, w = k := ⟨w.toNat, by omega⟩
  obtain ⟨a1, a2, a3, a4, a5, a6, a7, a8⟩ := day_cases (k := k) (by omega)
  obtain ⟨b1, b2, b3⟩ := month_cases (k := (d.mo - 1).toNat) (by omega)
  obtain ⟨c1, c2⟩ := pad_okI (n := d.d) (w := 2) (by omega) (by omega) (by omega)
  obtain ⟨c3, c4⟩ := pad_okI (n := d.y % 100) (w := 2) (by omega) (by omega) (by omega)
  obtain ⟨c5, c6⟩ := pad_okI (n := d.h) (w := 2) (by omega) (by omega) (by omega)
  obtain ⟨c7, c8⟩ := pad_okI (n := d.mi) (w := 2) (by omega) (by omega) (by omega)
  obtain ⟨c9, c10⟩ := pad_okI (n := d.se) (w := 2) (by omega) (by omega) (by omega)
  unfold writeS clkS
  rw [if_neg (by omega), if_pos rfl, Int.toNat_natCast]
  refine ⟨?_, ?_⟩
  · rintro ⟨-, h1, -⟩
    simp only [List.append_assoc] at h1
    rw [take1_getD (by simp only [List.length_append]; omega), List.getD_eq_getElem?_getD, List.getElem?_append_left (by omega), ← List.getD_eq_getElem?_getD] at h1
    exact a7 h1
  obtain ⟨t1, t2⟩ := txt2 b2 c1.1 c3.1 c5.1 c7.1 c9.1 a1 b1 c1 c3 c5 c7 c9
  refine ⟨t1, ?_⟩
  rw [show ((2 : Nat) : Int) = 2 from rfl] at *
  rw [t2, c2, c4, c6, c8, c10, a4, b3]
  congr 1; omega
theorem no_day {a b c : UInt8} (t : List UInt8) : wHit hdDays (a :: b :: c :: 32 :: t) = false := by
  rw [wHit, ← Bool.not_eq_true, List.any_eq_true]
  rintro ⟨w, hw, h⟩
  obtain ⟨k, hk, e⟩ := List.getElem_of_mem hw
  have hk' : k < 7 := hk
  have e' : w = hdDays.getD k [] := by rw [← e, List.getD_eq_getElem?_getD, List.getElem?_eq_getElem hk]; rfl
  obtain ⟨-, -, -, -, -, a6, -, a8⟩ := day_cases hk'
  rw [← e'] at a6 a8
  have hp : w <+: a :: b :: c :: 32 :: t := List.isPrefixOf_iff_prefix.1 h
  have := hp.getElem (i := 3) (by omega)
  apply a8
  rw [List.getD_eq_getElem?_getD, List.getElem?_eq_getElem (by omega)]
  simpa using this
theorem back3 {d : Dt} {w : Int} (h : dtIn d w) : ¬ C1 (writeS d w 3) ∧ ¬ C2 (writeS d w 3) ∧ C3 (writeS d w 3) ∧ v3 (writeS d w 3) = ⟨[], d.y, d.mo, d.d, d.h, d.mi, d.se, w, false, false⟩ := by
  obtain ⟨hw, hy, hmo, hd, hh, hmi, hse⟩ := h
  obtain ⟨k, rfl⟩ : ∃ k : Nat, w = k := ⟨w.toNat, by omega⟩
  obtain ⟨a1, a2, a3, a4, a5, a6, a7, a8⟩ := day_cases (k := k) (by omega)
  obtain ⟨b1, b2, b3⟩ := month_cases (k := (d.mo - 1).toNat) (by omega)
  obtain ⟨c1, c1', c2⟩ := b_cases d.d.toNat (by omega) (by omega)
  rw [show ((d.d.toNat : Nat) : Int) = d.d by omega] at c1 c1' c2
  obtain ⟨c3, c4⟩ := pad_okI (n := d.y) (w := 4) (by omega) (by omega) (by omega)
  obtain ⟨c5, c6⟩ := pad_okI (n := d.h) (w := 2) (by omega) (by omega) (by omega)
  obtain ⟨c7, c8⟩ := pad_okI (n := d.mi) (w := 2) (by omega) (by omega) (by omega)
  obtain ⟨c9, c10⟩ := pad_okI (n := d.se) (w := 2) (by omega) (by omega) (by omega)
  unfold writeS clkS
  rw [if_neg (by omega), if_neg (by omega), Int.toNat_natCast]
  generalize (if d.d < 10 then 32 :: padS d.d 1 else padS d.d 1) = x at *
  obtain ⟨w1, w2, w3, e⟩ := len3 a3
  refine ⟨?_, ?_, ?_⟩
  · rintro ⟨-, h1, -⟩
    rw [e] at h1
    simp at h1
  · rintro ⟨h1, -⟩
    rw [e] at h1
    simp only [List.cons_append, List.nil_append, List.append_assoc] at h1
    rw [no_day] at h1
    cases h1
  obtain ⟨t1, t2⟩ := txt3 a3 b2 c1 c3.1 c5.1 c7.1 c9.1 a2 b1 c1' c3 c5 c7 c9
  refine ⟨t1, ?_⟩
  rw [show ((2 : Nat) : Int) = 2 from rfl, show ((4 : Nat) : Int) = 4 from rfl] at *
  rw [t2, c2, c4, c6, c8, c10, a5, b3]
  congr 1; omega
/-- The greatest year with these two last digits. -/
theorem near_back {y x : Int} (hy : 1 ≤ y) (h1 : x - 50 < y) (h2 : y ≤ x + 50) : nearI (y % 100) x = y := by
  unfold nearI
  have key : ∀ a : Int, (a.tmod 100 + 100).tmod 100 = a % 100 := by
    intro a
    rcases Int.le_total 0 a with h | h
    · rw [Int.tmod_eq_emod_of_nonneg h, Int.tmod_eq_emod_of_nonneg (by omega)]; omega
    · have : a.tmod 100 = -((-a) % 100) := by
        have := Int.neg_tmod (-a) 100
        rw [Int.neg_neg] at this
        rw [this, Int.tmod_eq_emod_of_nonneg (by omega)]
      rw [this, Int.tmod_eq_emod_of_nonneg (by omega)]; omega
  rw [key]; omega
end Go.Mdl
