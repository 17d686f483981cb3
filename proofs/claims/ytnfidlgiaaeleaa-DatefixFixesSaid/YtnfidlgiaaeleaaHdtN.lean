/- httpdate: what the document's answer computes, and that it is the same. No condition. -/
import Derived.Test.YtnfidlgiaaeleaaHdtL2
set_option linter.unusedVariables false
set_option linter.unusedSimpArgs false
namespace Go.Mdl
open Go Go.Abs

structure Dt where
  y : Int
  mo : Int
  d : Int
  h : Int
  mi : Int
  se : Int
def dt0 : Dt := ⟨0, 0, 0, 0, 0, 0⟩
def numN (s : List UInt8) : Int := if numErr 10 9999 s = 0 then numVal 10 9999 s else -1
/-- What tells a time of day. -/
def tiOk (s : List UInt8) : Bool := decide (s.length = 8) && decide (s.getD 2 0 = 58) && decide (s.getD 5 0 = 58)
def tiD (s : List UInt8) (d : Dt) : Dt := if tiOk s = true then { d with h := numN (s.take 2), mi := numN ((s.take 5).drop 3), se := numN (s.drop 6) } else d
def tiB (s : List UInt8) : Bool := tiOk s && decide (0 ≤ numN (s.take 2)) && decide (0 ≤ numN ((s.take 5).drop 3)) && decide (0 ≤ numN (s.drop 6))
structure Fm where
  d : Dt
  week : Int
  ok : Bool
/-- The place of the first comma. -/
def cmI (s : List UInt8) : Nat := s.findIdx (fun c => c == 44)
def f2Ok (s r : List UInt8) : Bool := decide (0 ≤ ixN hdDays s) && decide (r.length = 24) && decide (r.take 2 = [44, 32]) && decide (r.getD 4 0 = 45) && decide (r.getD 8 0 = 45) && decide (r.getD 11 0 = 32) && decide (r.drop 20 = [32, 71, 77, 84])
def f2D (r : List UInt8) : Dt := { dt0 with d := numN ((r.take 4).drop 2), mo := ixN hdMonths ((r.take 8).drop 5) + 1, y := numN ((r.take 11).drop 9) }
def dtOk (d : Dt) : Bool := decide (0 ≤ d.d) && decide (1 ≤ d.mo) && decide (0 ≤ d.y)
def form2 (ty : Int) (s : List UInt8) : Fm :=
  let a := s.take (cmI s)
  let r := s.drop (cmI s)
  if f2Ok a r = true then
    if dtOk (f2D r) = true then
      ⟨tiD ((r.take 20).drop 12) { f2D r with y := nearI (f2D r).y ty }, ixN hdDays a, tiB ((r.take 20).drop 12)⟩
    else ⟨f2D r, 0, false⟩
  else ⟨dt0, 0, false⟩
def wkI (s : List UInt8) : Int := if 3 < s.length then ixN hdDays3 (s.take 3) else -1
def f1Ok (s : List UInt8) : Bool := decide (s.length = 29) && decide ((s.take 5).drop 3 = [44, 32]) && decide (s.getD 7 0 = 32) && decide (s.getD 11 0 = 32) && decide (s.getD 16 0 = 32) && decide (s.drop 25 = [32, 71, 77, 84])
def f1D (s : List UInt8) : Dt := { dt0 with d := numN ((s.take 7).drop 5), mo := ixN hdMonths ((s.take 11).drop 8) + 1, y := numN ((s.take 16).drop 12) }
def form1 (s : List UInt8) : Fm :=
  if wkI s < 0 then ⟨dt0, 0, false⟩ else
  if f1Ok s = true then ⟨tiD ((s.take 25).drop 17) (f1D s), wkI s, tiB ((s.take 25).drop 17) && dtOk (f1D s)⟩ else ⟨dt0, 0, false⟩
def f3Ok (s : List UInt8) : Bool := decide (s.length = 24) && decide (s.getD 3 0 = 32) && decide (s.getD 7 0 = 32) && decide (s.getD 10 0 = 32) && decide (s.getD 19 0 = 32)
def f3D (s : List UInt8) : Dt := { dt0 with d := if s.getD 8 0 = 32 then numN ((s.take 10).drop 9) else numN ((s.take 10).drop 8), mo := ixN hdMonths ((s.take 7).drop 4) + 1, y := numN (s.drop 20) }
def form3 (s : List UInt8) : Fm :=
  if wkI s < 0 then ⟨dt0, 0, false⟩ else
  if f3Ok s = true then ⟨tiD ((s.take 19).drop 11) (f3D s), wkI s, tiB ((s.take 19).drop 11) && dtOk (f3D s)⟩ else ⟨dt0, 0, false⟩
def formF (s : List UInt8) (form ty : Int) : Fm := if form = 2 then form2 ty s else if form = 1 then form1 s else form3 s

/-! ### one answer -/
theorem take1_getD {s : List UInt8} {k : Nat} (h : k < s.length) (c : UInt8) : ((s.drop k).take 1 = [c]) = (s.getD k 0 = c) := by
  rw [List.drop_eq_getElem_cons h, List.take_succ_cons, List.take_zero, List.getD_eq_getElem?_getD, List.getElem?_eq_getElem h]
  simp
theorem drop_take' (s : List UInt8) (a b : Nat) : (s.take b).drop a = (s.drop a).take (b - a) := by rw [List.drop_take]
theorem take_two (x : List UInt8) (a b : UInt8) : (x.take 2 = [a, b]) = (x.take 1 = [a] ∧ (x.drop 1).take 1 = [b]) := by
  rcases x with _ | ⟨p, _ | ⟨q, r⟩⟩ <;> simp
theorem numN_ge (s : List UInt8) : (0 ≤ numN s) = (numErr 10 9999 s = 0) := by
  unfold numN
  by_cases h : numErr 10 9999 s = 0
  · rw [if_pos h]
    have : 0 ≤ numVal 10 9999 s := by
      rw [numVal, if_pos h]
      unfold numErr at h
      split at h
      · omega
      · split at h
        · rename_i h2; exact numV_nonneg (by omega) _ h2
        · omega
    simp [h, this]
  · rw [if_neg h]; simp [h]
theorem numN_of {s : List UInt8} (h : numErr 10 9999 s = 0) : numN s = nVal s := by rw [numN, if_pos h]; rfl
theorem nOK_of {w : Nat} {x : List UInt8} (h : x.length = w) : nOK w x = (numErr 10 9999 x = 0) := by simp [nOK, h]
theorem gmt_tail {x : List UInt8} (h : x.length = 4) : (x = [32, 71, 77, 84]) = (x.take 1 = [32] ∧ (x.drop 1).take 3 = [71, 77, 84]) := by
  rcases x with _ | ⟨p, _ | ⟨q, _ | ⟨r, _ | ⟨t, u⟩⟩⟩⟩ <;> simp at h ⊢
  subst h
  simp
/-- A time of day, by places. -/
theorem tiB_iff {x : List UInt8} (h : 8 ≤ x.length) : (tiB (x.take 8) = true) = tOK x := by
  have l8 : (x.take 8).length = 8 := by rw [List.length_take]; omega
  have e1 : (x.take 8).take 2 = x.take 2 := by rw [List.take_take]; rfl
  have e2 : ((x.take 8).take 5).drop 3 = (x.drop 3).take 2 := by rw [List.take_take, drop_take']; rfl
  have e3 : (x.take 8).drop 6 = (x.drop 6).take 2 := by rw [List.drop_take]
  have g2 : ((x.take 8).getD 2 0 = 58) = ((x.drop 2).take 1 = [58]) := by
    rw [take1_getD (by omega), List.getD_eq_getElem?_getD, List.getElem?_take_of_lt (by omega), ← List.getD_eq_getElem?_getD]
  have g5 : ((x.take 8).getD 5 0 = 58) = ((x.drop 5).take 1 = [58]) := by
    rw [take1_getD (by omega), List.getD_eq_getElem?_getD, List.getElem?_take_of_lt (by omega), ← List.getD_eq_getElem?_getD]
  have n1 : (x.take 2).length = 2 := by rw [List.length_take]; omega
  have n2 : ((x.drop 3).take 2).length = 2 := by rw [List.length_take, List.length_drop]; omega
  have n3 : ((x.drop 6).take 2).length = 2 := by rw [List.length_take, List.length_drop]; omega
  unfold tiB tiOk tOK
  simp only [e1, e2, e3, l8, numN_ge, nOK_of n1, nOK_of n2, nOK_of n3, Bool.and_eq_true, decide_eq_true_eq, g2, g5, eq_iff_iff]
  constructor
  · rintro ⟨⟨⟨⟨⟨_, a⟩, b⟩, c⟩, d⟩, e⟩; exact ⟨c, a, d, b, e⟩
  · rintro ⟨c, a, d, b, e⟩; exact ⟨⟨⟨⟨⟨trivial, a⟩, b⟩, c⟩, d⟩, e⟩
theorem tiD_of {x : List UInt8} (h : 8 ≤ x.length) (ht : tOK x) (d : Dt) : tiD (x.take 8) d = { d with h := nVal (x.take 2), mi := nVal ((x.drop 3).take 2), se := nVal ((x.drop 6).take 2) } := by
  have hb : tiB (x.take 8) = true := by rw [tiB_iff h]; exact ht
  have e1 : (x.take 8).take 2 = x.take 2 := by rw [List.take_take]; rfl
  have e2 : ((x.take 8).take 5).drop 3 = (x.drop 3).take 2 := by rw [List.take_take, drop_take']; rfl
  have e3 : (x.take 8).drop 6 = (x.drop 6).take 2 := by rw [List.drop_take]
  obtain ⟨a, _, b, _, c⟩ := ht
  have hok : tiOk (x.take 8) = true := by
    unfold tiB at hb
    simp only [Bool.and_eq_true] at hb
    exact hb.1.1.1
  rw [tiD, if_pos hok, e1, e2, e3, numN_of a.2, numN_of b.2, numN_of c.2]
theorem wk_ge {s : List UInt8} (h : 3 < s.length) : (¬ wkI s < 0) = (s.take 3 ∈ hdDays3) := by
  unfold wkI
  rw [if_pos h, ← ixN_ge, Int.not_lt]

theorem form1_ok (s : List UInt8) : ((form1 s).ok = true ↔ C1 s) ∧ (C1 s → form1 s = ⟨⟨(v1 s).y, (v1 s).mo, (v1 s).d, (v1 s).h, (v1 s).mi, (v1 s).se⟩, (v1 s).week, true⟩) := by
  by_cases hl : s.length = 29
  rotate_left
  · have n1 : (form1 s).ok = false := by
      unfold form1 f1Ok
      split
      · rfl
      · simp [hl]
    have n2 : ¬ C1 s := by
      rintro ⟨-, -, -, -, -, -, -, -, -, -, -, h1, h2⟩
      have := congrArg List.length h1
      have := congrArg List.length h2
      simp at *
      omega
    exact ⟨by simp [n1, n2], fun h => absurd h n2⟩
  have q1 := take1_getD (s := s) (k := 7) (by omega) 32
  have q2 := take1_getD (s := s) (k := 11) (by omega) 32
  have q3 := take1_getD (s := s) (k := 16) (by omega) 32
  have q4 : ((s.take 5).drop 3 = [44, 32]) = ((s.drop 3).take 1 = [44] ∧ (s.drop 4).take 1 = [32]) := by
    rw [drop_take', take_two, dd]
  have q5 : (s.drop 25 = [32, 71, 77, 84]) = ((s.drop 25).take 1 = [32] ∧ (s.drop 26).take 3 = [71, 77, 84]) := by
    rw [gmt_tail (by rw [List.length_drop]; omega), dd]
  have q6 : (s.take 25).drop 17 = (s.drop 17).take 8 := by rw [drop_take']
  have q7 : (tiB ((s.drop 17).take 8) = true) = tOK (s.drop 17) := tiB_iff (by rw [List.length_drop]; omega)
  have q8 : s.drop 29 = [] := by rw [List.drop_eq_nil_iff]; omega
  have a1 : (s.take 7).drop 5 = (s.drop 5).take 2 := by rw [drop_take']
  have a2 : (s.take 11).drop 8 = (s.drop 8).take 3 := by rw [drop_take']
  have a3 : (s.take 16).drop 12 = (s.drop 12).take 4 := by rw [drop_take']
  have b1 := nOK_of (w := 2) (x := (s.drop 5).take 2) (by rw [List.length_take, List.length_drop]; omega)
  have b2 := nOK_of (w := 4) (x := (s.drop 12).take 4) (by rw [List.length_take, List.length_drop]; omega)
  have k1 := wk_ge (s := s) (by omega)
  have k2 : wkI s = ixN hdDays3 (s.take 3) := by rw [wkI, if_pos (by omega)]
  have k3 : (1 ≤ ixN hdMonths ((s.drop 8).take 3) + 1) = ((s.drop 8).take 3 ∈ hdMonths) := by rw [← ixN_ge]; simp only [eq_iff_iff]; omega
  have key : (form1 s).ok = true ↔ C1 s := by
    unfold form1 C1
    by_cases hw : wkI s < 0
    · rw [if_pos hw]
      have : ¬ s.take 3 ∈ hdDays3 := by rw [← k1]; simpa using hw
      simp [this]
    rw [if_neg hw]
    have hw' : s.take 3 ∈ hdDays3 := by rw [← k1]; exact hw
    by_cases hf : f1Ok s = true
    · rw [if_pos hf]
      simp only [f1Ok, Bool.and_eq_true, decide_eq_true_eq, q4, ← q1, ← q2, ← q3, q5] at hf
      obtain ⟨⟨⟨⟨⟨_, f1, f2⟩, f3⟩, f4⟩, f5⟩, f6, f7⟩ := hf
      simp only [q6, Bool.and_eq_true, q7, dtOk, f1D, decide_eq_true_eq, a1, a2, a3, numN_ge, k3, b1, b2, hw', f1, f2, f3, f4, f5, f6, f7, q8, true_and, and_true]
      constructor
      · rintro ⟨t, ⟨x, y⟩, z⟩; exact ⟨x, y, z, t⟩
      · rintro ⟨x, y, z, t⟩; exact ⟨t, ⟨x, y⟩, z⟩
    · rw [if_neg hf]
      simp only [f1Ok, Bool.and_eq_true, decide_eq_true_eq, q4, ← q1, ← q2, ← q3, q5] at hf
      constructor
      · intro h; cases h
      · rintro ⟨_, c2, c3, _, c5, _, c7, _, c9, _, c11, c12, _⟩
        exact absurd ⟨⟨⟨⟨⟨hl, c2, c3⟩, c5⟩, c7⟩, c9⟩, c11, c12⟩ hf
  refine ⟨key, fun hC => ?_⟩
  have hok := key.2 hC
  obtain ⟨h0, -, -, h3, -, h5, -, h7, -, h9, -, -, -⟩ := hC
  have hw : ¬ wkI s < 0 := by rw [k1]; exact h0
  unfold form1 at hok ⊢
  rw [if_neg hw] at hok ⊢
  by_cases hf : f1Ok s = true
  · rw [if_pos hf] at hok ⊢
    simp only at hok
    rw [hok, q6, tiD_of (by rw [List.length_drop]; omega) h9]
    simp only [f1D, dt0, a1, a2, a3, numN_of h3.2, numN_of h7.2, k2, v1, dd]
  · rw [if_neg hf] at hok; cases hok

theorem bd_ge {s : List UInt8} (hl : s.length = 24) : (0 ≤ (f3D s).d) = bOK (s.drop 8) ∧ (bOK (s.drop 8) → (f3D s).d = bVal (s.drop 8)) := by
  have q := take1_getD (s := s) (k := 8) (by omega) 32
  have a1 : (s.take 10).drop 9 = ((s.drop 8).drop 1).take 1 := by rw [drop_take', dd]
  have a2 : (s.take 10).drop 8 = (s.drop 8).take 2 := by rw [drop_take']
  have b1 := nOK_of (w := 1) (x := ((s.drop 8).drop 1).take 1) (by rw [List.length_take, List.length_drop, List.length_drop]; omega)
  have b2 := nOK_of (w := 2) (x := (s.drop 8).take 2) (by rw [List.length_take, List.length_drop]; omega)
  unfold f3D bOK bVal
  simp only [a1, a2, ← q, b1, b2]
  by_cases h : (s.drop 8).take 1 = [32]
  · simp only [h, if_true, not_true, false_and, or_false, true_and, numN_ge]
    exact fun g => numN_of g
  · simp only [h, if_false, not_false_iff, false_and, false_or, true_and, numN_ge]
    exact fun g => numN_of g

theorem form3_ok (s : List UInt8) : ((form3 s).ok = true ↔ C3 s) ∧ (C3 s → form3 s = ⟨⟨(v3 s).y, (v3 s).mo, (v3 s).d, (v3 s).h, (v3 s).mi, (v3 s).se⟩, (v3 s).week, true⟩) := by
  by_cases hl : s.length = 24
  rotate_left
  · have n1 : (form3 s).ok = false := by
      unfold form3 f3Ok
      split
      · rfl
      · simp [hl]
    have n2 : ¬ C3 s := by
      rintro ⟨-, -, -, -, -, -, -, -, h1, h2⟩
      have h1 := h1.1
      have := congrArg List.length h2
      simp at *
      omega
    exact ⟨by simp [n1, n2], fun h => absurd h n2⟩
  have q1 := take1_getD (s := s) (k := 3) (by omega) 32
  have q2 := take1_getD (s := s) (k := 7) (by omega) 32
  have q3 := take1_getD (s := s) (k := 10) (by omega) 32
  have q4 := take1_getD (s := s) (k := 19) (by omega) 32
  have q6 : (s.take 19).drop 11 = (s.drop 11).take 8 := by rw [drop_take']
  have q7 : (tiB ((s.drop 11).take 8) = true) = tOK (s.drop 11) := tiB_iff (by rw [List.length_drop]; omega)
  have q8 : s.drop 24 = [] := by rw [List.drop_eq_nil_iff]; omega
  have a2 : (s.take 7).drop 4 = (s.drop 4).take 3 := by rw [drop_take']
  have a3 : s.drop 20 = (s.drop 20).take 4 := by rw [List.take_of_length_le]; rw [List.length_drop]; omega
  have b2 := nOK_of (w := 4) (x := (s.drop 20).take 4) (by rw [List.length_take, List.length_drop]; omega)
  have k1 := wk_ge (s := s) (by omega)
  have k2 : wkI s = ixN hdDays3 (s.take 3) := by rw [wkI, if_pos (by omega)]
  have k3 : (1 ≤ ixN hdMonths ((s.drop 4).take 3) + 1) = ((s.drop 4).take 3 ∈ hdMonths) := by rw [← ixN_ge]; simp only [eq_iff_iff]; omega
  obtain ⟨k4, k5⟩ := bd_ge hl
  have k6 : (f3D s).mo = ixN hdMonths ((s.drop 4).take 3) + 1 := by simp only [f3D, a2]
  have k7 : (f3D s).y = numN ((s.drop 20).take 4) := by rw [← a3]; rfl
  have key : (form3 s).ok = true ↔ C3 s := by
    unfold form3 C3
    by_cases hw : wkI s < 0
    · rw [if_pos hw]
      have : ¬ s.take 3 ∈ hdDays3 := by rw [← k1]; simpa using hw
      simp [this]
    rw [if_neg hw]
    have hw' : s.take 3 ∈ hdDays3 := by rw [← k1]; exact hw
    by_cases hf : f3Ok s = true
    · rw [if_pos hf]
      simp only [f3Ok, Bool.and_eq_true, decide_eq_true_eq, ← q1, ← q2, ← q3, ← q4] at hf
      obtain ⟨⟨⟨⟨_, f1⟩, f2⟩, f3⟩, f4⟩ := hf
      simp only [q6, Bool.and_eq_true, q7, dtOk, decide_eq_true_eq, k4, k6, k7, numN_ge, k3, b2, hw', f1, f2, f3, f4, q8, true_and, and_true]
      constructor
      · rintro ⟨t, ⟨x, y⟩, z⟩; exact ⟨y, x, t, z⟩
      · rintro ⟨y, x, t, z⟩; exact ⟨t, ⟨x, y⟩, z⟩
    · rw [if_neg hf]
      simp only [f3Ok, Bool.and_eq_true, decide_eq_true_eq, ← q1, ← q2, ← q3, ← q4] at hf
      constructor
      · intro h; cases h
      · rintro ⟨_, c2, _, c4, _, c6, _, c8, _⟩
        exact absurd ⟨⟨⟨⟨hl, c2⟩, c4⟩, c6⟩, c8⟩ hf
  refine ⟨key, fun hC => ?_⟩
  have hok := key.2 hC
  obtain ⟨h0, -, -, -, h4, -, h6, -, h8, -⟩ := hC
  have hw : ¬ wkI s < 0 := by rw [k1]; exact h0
  unfold form3 at hok ⊢
  rw [if_neg hw] at hok ⊢
  by_cases hf : f3Ok s = true
  · rw [if_pos hf] at hok ⊢
    simp only at hok
    rw [hok, q6, tiD_of (by rw [List.length_drop]; omega) h6]
    simp only [k5 h4, k6, k7, numN_of h8.2, k2, v3, dd]
  · rw [if_neg hf] at hok; cases hok

theorem day_at {w : List UInt8} (hw : w ∈ hdDays) (t : List UInt8) : wHit hdDays (w ++ 44 :: t) = true ∧ wdS hdDays (w ++ 44 :: t) = 44 :: t ∧ wdN hdDays (w ++ 44 :: t) = ixN hdDays w ∧ cmI (w ++ 44 :: t) = w.length := by
  have h : ∃ k : Nat, k < 7 ∧ w = hdDays.getD k [] := by
    obtain ⟨k, hk, e⟩ := List.getElem_of_mem hw
    exact ⟨k, hk, by rw [← e, List.getD_eq_getElem?_getD, List.getElem?_eq_getElem hk]; rfl⟩
  obtain ⟨k, hk, rfl⟩ := h
  have hh : wHit hdDays (hdDays.getD k [] ++ 44 :: t) = true ∧ wIx hdDays (hdDays.getD k [] ++ 44 :: t) = k := by
    apply word_hit (show k < hdDays.length from hk)
    · have : k = 0 ∨ k = 1 ∨ k = 2 ∨ k = 3 ∨ k = 4 ∨ k = 5 ∨ k = 6 := by omega
      rcases this with rfl | rfl | rfl | rfl | rfl | rfl | rfl <;> rfl
    · have : (hdDays.getD k []).isPrefixOf (hdDays.getD k [] ++ 44 :: t) = true := by rw [List.isPrefixOf_iff_prefix]; exact List.prefix_append _ _
      exact this
  refine ⟨hh.1, ?_, ?_, ?_⟩
  · rw [wdS, if_pos hh.1, hh.2, List.drop_left]
  · rw [wdN, if_pos hh.1, hh.2]
    have : k = 0 ∨ k = 1 ∨ k = 2 ∨ k = 3 ∨ k = 4 ∨ k = 5 ∨ k = 6 := by omega
    rcases this with rfl | rfl | rfl | rfl | rfl | rfl | rfl <;> decide
  · have : k = 0 ∨ k = 1 ∨ k = 2 ∨ k = 3 ∨ k = 4 ∨ k = 5 ∨ k = 6 := by omega
    rcases this with rfl | rfl | rfl | rfl | rfl | rfl | rfl <;> rfl
theorem hit_split {l : List (List UInt8)} {s : List UInt8} (h : wHit l s = true) : ∃ w ∈ l, s = w ++ wdS l s := by
  have h1 : wIx l s < l.length := by
    unfold wIx; rw [List.findIdx_lt_length]
    unfold wHit at h; rw [List.any_eq_true] at h; exact h
  have h2 : Lib.hasPrefix s (l.getD (wIx l s) []) = true := by
    have := List.findIdx_getElem (w := h1)
    rw [List.getD_eq_getElem?_getD, List.getElem?_eq_getElem h1]
    exact this
  refine ⟨l.getD (wIx l s) [], ?_, ?_⟩
  · rw [List.getD_eq_getElem?_getD, List.getElem?_eq_getElem h1]; exact List.getElem_mem h1
  · rw [wdS, if_pos h]
    have h3 : (l.getD (wIx l s) []) <+: s := List.isPrefixOf_iff_prefix.1 h2
    rw [List.prefix_iff_eq_append] at h3
    exact h3.symm
theorem head44 {r : List UInt8} (h : r.take 1 = [44]) : ∃ t, r = 44 :: t := by
  rcases r with _ | ⟨a, t⟩
  · simp at h
  · simp at h; exact ⟨t, by rw [h]⟩

theorem form2_ok (ty : Int) (s : List UInt8) : ((form2 ty s).ok = true ↔ C2 s) ∧ (C2 s → form2 ty s = ⟨⟨nearI (v2 s).y ty, (v2 s).mo, (v2 s).d, (v2 s).h, (v2 s).mi, (v2 s).se⟩, (v2 s).week, true⟩) := by
  by_cases hs : ∃ w ∈ hdDays, ∃ t, s = w ++ 44 :: t
  rotate_left
  · have n1 : (form2 ty s).ok = false := by
      have : ¬ f2Ok (s.take (cmI s)) (s.drop (cmI s)) = true := by
        intro hf
        simp only [f2Ok, Bool.and_eq_true, decide_eq_true_eq, ixN_ge, take_two] at hf
        obtain ⟨⟨⟨⟨⟨⟨f0, f1⟩, f2, f3⟩, f4⟩, f5⟩, f6⟩, f7⟩ := hf
        obtain ⟨t, e⟩ := head44 f2
        exact hs ⟨_, f0, t, by rw [← e, List.take_append_drop]⟩
      simp only [form2, if_neg this]
    have n2 : ¬ C2 s := by
      rintro ⟨h0, h1, -⟩
      obtain ⟨w, hw, e⟩ := hit_split h0
      obtain ⟨t, e2⟩ := head44 h1
      exact hs ⟨w, hw, t, by rw [← e2]; exact e⟩
    exact ⟨by simp [n1, n2], fun h => absurd h n2⟩
  obtain ⟨w, hw, t, rfl⟩ := hs
  obtain ⟨d1, d2, d3, d4⟩ := day_at hw t
  have e1 : (w ++ 44 :: t).take (cmI (w ++ 44 :: t)) = w := by rw [d4, List.take_left]
  have e2 : (w ++ 44 :: t).drop (cmI (w ++ 44 :: t)) = 44 :: t := by rw [d4, List.drop_left]
  unfold form2 C2 v2
  simp only [e1, e2, d1, d2, d3]
  generalize 44 :: t = r
  by_cases hl : r.length = 24
  rotate_left
  · have n1 : ¬ f2Ok w r = true := by simp [f2Ok, hl]
    rw [if_neg n1]
    have n2 : ¬ (r.drop 21).take 3 = [71, 77, 84] ∨ ¬ r.drop 24 = [] := by
      by_cases h2 : r.drop 24 = []
      · left; intro h1
        have := congrArg List.length h1
        have := congrArg List.length h2
        simp at *
        omega
      · exact Or.inr h2
    constructor
    · constructor
      · intro h; cases h
      · rintro ⟨-, -, -, -, -, -, -, -, -, -, -, h1, h2⟩; exact (n2.elim (fun h => h h1) (fun h => h h2)).elim
    · rintro ⟨-, -, -, -, -, -, -, -, -, -, -, h1, h2⟩; exact (n2.elim (fun h => h h1) (fun h => h h2)).elim
  have q1 := take1_getD (s := r) (k := 4) (by omega) 45
  have q2 := take1_getD (s := r) (k := 8) (by omega) 45
  have q3 := take1_getD (s := r) (k := 11) (by omega) 32
  have q5 : (r.drop 20 = [32, 71, 77, 84]) = ((r.drop 20).take 1 = [32] ∧ (r.drop 21).take 3 = [71, 77, 84]) := by
    rw [gmt_tail (by rw [List.length_drop]; omega), dd]
  have q6 : (r.take 20).drop 12 = (r.drop 12).take 8 := by rw [drop_take']
  have q7 : (tiB ((r.drop 12).take 8) = true) = tOK (r.drop 12) := tiB_iff (by rw [List.length_drop]; omega)
  have q8 : r.drop 24 = [] := by rw [List.drop_eq_nil_iff]; omega
  have a1 : (r.take 4).drop 2 = (r.drop 2).take 2 := by rw [drop_take']
  have a2 : (r.take 8).drop 5 = (r.drop 5).take 3 := by rw [drop_take']
  have a3 : (r.take 11).drop 9 = (r.drop 9).take 2 := by rw [drop_take']
  have b1 := nOK_of (w := 2) (x := (r.drop 2).take 2) (by rw [List.length_take, List.length_drop]; omega)
  have b2 := nOK_of (w := 2) (x := (r.drop 9).take 2) (by rw [List.length_take, List.length_drop]; omega)
  have k3 : (1 ≤ ixN hdMonths ((r.drop 5).take 3) + 1) = ((r.drop 5).take 3 ∈ hdMonths) := by rw [← ixN_ge]; simp only [eq_iff_iff]; omega
  by_cases hf : f2Ok w r = true
  · rw [if_pos hf]
    simp only [f2Ok, Bool.and_eq_true, decide_eq_true_eq, take_two, ← q1, ← q2, ← q3, q5] at hf
    obtain ⟨⟨⟨⟨⟨⟨_, _⟩, f1, f2⟩, f3⟩, f4⟩, f5⟩, f6, f7⟩ := hf
    have hd : (dtOk (f2D r) = true) = (nOK 2 ((r.drop 2).take 2) ∧ (r.drop 5).take 3 ∈ hdMonths ∧ nOK 2 ((r.drop 9).take 2)) := by
      simp only [dtOk, f2D, Bool.and_eq_true, decide_eq_true_eq, a1, a2, a3, numN_ge, k3, b1, b2, and_assoc]
    by_cases hk : dtOk (f2D r) = true
    · rw [if_pos hk]
      rw [hd] at hk
      obtain ⟨g1, g2, g3⟩ := hk
      simp only [q6, q7, g1, g2, g3, f1, f2, f3, f4, f5, f6, f7, q8, true_and, and_true]
      intro ht
      have hb : tiB ((r.drop 12).take 8) = true := by rw [q7]; exact ht
      rw [hb, tiD_of (by rw [List.length_drop]; omega) ht]
      simp only [f2D, dt0, a1, a2, a3, numN_of g1.2, numN_of g3.2, dd]
    · rw [if_neg hk]
      rw [hd] at hk
      constructor
      · constructor
        · intro h; cases h
        · rintro ⟨-, -, -, h3, -, h5, -, h7, -⟩; exact absurd ⟨h3, h5, h7⟩ hk
      · rintro ⟨-, -, -, h3, -, h5, -, h7, -⟩; exact absurd ⟨h3, h5, h7⟩ hk
  · rw [if_neg hf]
    simp only [f2Ok, Bool.and_eq_true, decide_eq_true_eq, take_two, ← q1, ← q2, ← q3, q5, ixN_ge] at hf
    constructor
    · constructor
      · intro h; cases h
      · rintro ⟨-, c1, c2, -, c4, -, c6, -, c8, -, c10, c11, -⟩
        exact absurd ⟨⟨⟨⟨⟨⟨hw, hl⟩, c1, c2⟩, c4⟩, c6⟩, c8⟩, c10, c11⟩ hf
    · rintro ⟨-, c1, c2, -, c4, -, c6, -, c8, -, c10, c11, -⟩
      exact absurd ⟨⟨⟨⟨⟨⟨hw, hl⟩, c1, c2⟩, c4⟩, c6⟩, c8⟩, c10, c11⟩ hf
end Go.Mdl
