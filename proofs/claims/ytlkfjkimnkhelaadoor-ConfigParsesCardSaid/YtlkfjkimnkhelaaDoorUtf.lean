/- Runes and octets: plain facts. No condition. -/
import Derived.Test.YtlkfjkimnkhelaaDoorAbsT
set_option linter.unusedVariables false
set_option linter.unusedSimpArgs false
namespace Go.Abs

theorem bget (s : List UInt8) (i : Nat) : (ByteArray.mk s.toArray).get! i = s.getD i 0 := by
  show s.toArray[i]! = _
  rw [getElem!_def]
  simp only [List.getElem?_toArray, List.getD_eq_getElem?_getD]
  cases s[i]? <;> rfl
theorem bsize (s : List UInt8) : (ByteArray.mk s.toArray).size = s.length := by simp [ByteArray.size]

theorem rune_low {s : List UInt8} {pos : Nat} (h : (s.getD pos 0).toNat < 128) : runeAt s pos = (((s.getD pos 0).toNat : Int), 1) := by
  simp only [runeAt, Utf8.decode, Nat.add_zero, bget, h, if_true]
theorem rune_high {s : List UInt8} {pos : Nat} (hp : pos < s.length) (h : 128 ≤ (s.getD pos 0).toNat) :
    128 ≤ (runeAt s pos).1 ∧ (runeAt s pos).1 ≤ 2147483647 ∧ 1 ≤ (runeAt s pos).2 ∧ pos + (runeAt s pos).2 ≤ s.length ∧ ∀ k, k < (runeAt s pos).2 → 128 ≤ (s.getD (pos + k) 0).toNat := by
  have hn : ¬ (s.getD pos 0).toNat < 128 := by omega
  have hb : ∀ k, (s.getD k 0).toNat < 256 := fun k => (s.getD k 0).toNat_lt
  have b0 := hb pos
  have b1 := hb (pos + 1)
  have b2 := hb (pos + 2)
  have b3 := hb (pos + 3)
  have k1 : ∀ k, k < 1 → 128 ≤ (s.getD (pos + k) 0).toNat := fun k hk => by
    have : k = 0 := by omega
    subst this; exact h
  simp only [runeAt, Utf8.decode, Nat.add_zero, bget, bsize, if_neg hn, Utf8.runeError]
  split
  · rename_i c
    simp only [Bool.and_eq_true, decide_eq_true_eq, beq_iff_eq] at c
    split
    · refine ⟨by simp only; omega, by simp only; omega, by simp, by simp only; omega, fun k hk => ?_⟩
      simp only at hk
      have : k = 0 ∨ k = 1 := by omega
      rcases this with rfl | rfl
      · exact h
      · omega
    · exact ⟨by simp, by simp, by simp, by simp only; omega, k1⟩
  · split
    · rename_i c
      simp only [Bool.and_eq_true, decide_eq_true_eq, beq_iff_eq] at c
      split
      · rename_i v
        simp only [Bool.and_eq_true, decide_eq_true_eq] at v
        refine ⟨by simp only; omega, by simp only; omega, by simp, by simp only; omega, fun k hk => ?_⟩
        simp only at hk
        have : k = 0 ∨ k = 1 ∨ k = 2 := by omega
        rcases this with rfl | rfl | rfl
        · exact h
        · omega
        · omega
      · exact ⟨by simp, by simp, by simp, by simp only; omega, k1⟩
    · split
      · rename_i c
        simp only [Bool.and_eq_true, decide_eq_true_eq, beq_iff_eq] at c
        split
        · rename_i v
          simp only [Bool.and_eq_true, decide_eq_true_eq] at v
          refine ⟨by simp only; omega, by simp only; omega, by simp, by simp only; omega, fun k hk => ?_⟩
          simp only at hk
          have : k = 0 ∨ k = 1 ∨ k = 2 ∨ k = 3 := by omega
          rcases this with rfl | rfl | rfl | rfl
          · exact h
          · omega
          · omega
          · omega
        · exact ⟨by simp, by simp, by simp, by simp only; omega, k1⟩
      · exact ⟨by simp, by simp, by simp, by simp only; omega, k1⟩

theorem rune_pos {s : List UInt8} {pos : Nat} (hp : pos < s.length) : 0 ≤ (runeAt s pos).1 ∧ 1 ≤ (runeAt s pos).2 ∧ pos + (runeAt s pos).2 ≤ s.length := by
  by_cases h : (s.getD pos 0).toNat < 128
  · rw [rune_low h]; exact ⟨by simp only; omega, by simp, by simp only; omega⟩
  · obtain ⟨h1, h2, h3, h4, _⟩ := rune_high hp (by omega)
    exact ⟨by omega, h3, h4⟩

theorem getD_drop {α : Type} (s : List α) (x k : Nat) (d : α) : (s.drop x).getD k d = s.getD (x + k) d := by
  simp [List.getD_eq_getElem?_getD]
theorem rune_drop {s : List UInt8} {x : Nat} : runeAt (s.drop x) 0 = runeAt s x := by
  have c : ∀ k, (k < s.length - x) = (x + k < s.length) := fun k => propext ⟨fun h => by omega, fun h => by omega⟩
  simp only [runeAt, Utf8.decode, bget, bsize, getD_drop, List.length_drop, c, Nat.zero_add, Nat.add_zero]

/-! ### a property of all octets, seen rune by rune -/
/-- PR tells of runes what p tells of octets; octets and runes above 127 have the answer b. -/
structure RuneB (PR : Int → Bool) (p : UInt8 → Bool) (b : Bool) : Prop where
  low : ∀ c : UInt8, c.toNat < 128 → PR c.toNat = p c
  rune : ∀ r : Int, 128 ≤ r → PR r = b
  high : ∀ c : UInt8, 128 ≤ c.toNat → p c = b

theorem getD_of_lt {α : Type} {s : List α} {d : α} {i : Nat} (h : i < s.length) : s[i]? = some (s.getD i d) := by
  rw [List.getElem?_eq_getElem h]; simp [List.getD_eq_getElem?_getD, List.getElem?_eq_getElem h]
theorem take_all_add {p : UInt8 → Bool} {s : List UInt8} {pos n : Nat} (h : (s.take pos).all p = true) (hn : ∀ k, k < n → p (s.getD (pos + k) 0) = true) (hle : pos + n ≤ s.length) : (s.take (pos + n)).all p = true := by
  rw [List.take_add, List.all_append, h, Bool.true_and, List.all_eq_true]
  intro x hx
  obtain ⟨i, hi⟩ := List.getElem?_of_mem hx
  rw [List.getElem?_take] at hi
  split at hi
  · rename_i hlt
    rw [List.getElem?_drop, getD_of_lt (d := 0) (by omega)] at hi
    cases hi
    exact hn i hlt
  · cases hi
theorem RuneB.step {PR : Int → Bool} {p : UInt8 → Bool} {b : Bool} (h : RuneB PR p b) {s : List UInt8} {pos : Nat} (hp : pos < s.length) (ha : (s.take pos).all p = true) :
    (PR (runeAt s pos).1 = true → (s.take (pos + (runeAt s pos).2)).all p = true) ∧ (PR (runeAt s pos).1 = false → s.all p = false) := by
  have bad : ∀ {x : UInt8}, s[pos]? = some x → p x = false → s.all p = false := by
    intro x hx hpx
    rw [← Bool.not_eq_true, List.all_eq_true]
    intro hh
    have := hh x (List.mem_of_getElem? hx)
    rw [hpx] at this; cases this
  have hg := getD_of_lt (s := s) (d := 0) hp
  by_cases hl : (s.getD pos 0).toNat < 128
  · rw [rune_low hl]
    refine ⟨fun he => ?_, fun he => bad hg (by rw [← h.low _ hl]; exact he)⟩
    refine take_all_add ha (fun k hk => ?_) (by omega)
    have : k = 0 := by omega
    subst this
    rw [Nat.add_zero, ← h.low _ hl]; exact he
  · obtain ⟨h1, h2, h3, h4, h5⟩ := rune_high hp (by omega)
    rw [h.rune _ h1]
    refine ⟨fun he => take_all_add ha (fun k hk => by rw [h.high _ (h5 k hk)]; exact he) h4, fun he => bad hg (by rw [h.high _ (by omega)]; exact he)⟩
theorem all_step {p : UInt8 → Bool} {s : List UInt8} {x : Nat} (hx : x < s.length) (h : (s.take x).all p = true) :
    (p (s.getD x 0) = true → (s.take (x + 1)).all p = true) ∧ (p (s.getD x 0) = false → s.all p = false) := by
  refine ⟨fun hp => take_all_add h (fun k hk => ?_) (by omega), fun hp => ?_⟩
  · have : k = 0 := by omega
    subst this; exact hp
  · rw [← Bool.not_eq_true, List.all_eq_true]
    intro hh
    have := hh _ (List.mem_of_getElem? (getD_of_lt (s := s) (d := 0) hx))
    rw [hp] at this; cases this
theorem take_succ_getD {α : Type} {s : List α} {x : Nat} (d : α) (hx : x < s.length) : s.take (x + 1) = s.take x ++ [s.getD x d] := by
  rw [List.take_succ_eq_append_getElem hx]
  simp [List.getD_eq_getElem?_getD, List.getElem?_eq_getElem hx]
/-- Two lists of one length, element by element. -/
theorem same_step {α : Type} {a b : List α} {x : Nat} (d : α) (hl : a.length = b.length) (hx : x < a.length) (h : a.take x = b.take x) :
    (a.getD x d = b.getD x d → a.take (x + 1) = b.take (x + 1)) ∧ (a.getD x d ≠ b.getD x d → a ≠ b) := by
  refine ⟨fun he => ?_, fun hne e => hne (by rw [e])⟩
  rw [take_succ_getD d hx, take_succ_getD d (by omega), h, he]
end Go.Abs
