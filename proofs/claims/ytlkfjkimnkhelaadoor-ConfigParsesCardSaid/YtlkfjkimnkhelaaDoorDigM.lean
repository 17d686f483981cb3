/- digits: what is computed. No condition. -/
import Derived.Test.YtlkfjkimnkhelaaDoorUtf
set_option linter.unusedVariables false
set_option linter.unusedSimpArgs false
namespace Go.Mdl
open Go Go.Abs

/-- The value of a digit's rune; -1: it is none. -/
def digI (r : Int) : Int := if 48 ≤ r ∧ r ≤ 57 then r - 48 else if 97 ≤ r ∧ r ≤ 102 then r - 87 else if 65 ≤ r ∧ r ≤ 70 then r - 55 else -1
def digB (c : UInt8) : Int := digI c.toNat
def isDig (b : Int) (c : UInt8) : Bool := decide (0 ≤ digB c ∧ digB c < b)
def refDig (c : UInt8) : Int := if digB c < 0 then 99 else digB c
def numV (b : Int) (s : List UInt8) : Int := s.foldl (fun n c => n * b + digB c) 0
def numErr (b most : Int) (s : List UInt8) : Int := if s = [] then 2 else if s.all (isDig b) = true then (if most < numV b s then 5 else 0) else 3
def numVal (b most : Int) (s : List UInt8) : Int := if numErr b most s = 0 then numV b s else 0

theorem digI_range (r : Int) : -1 ≤ digI r ∧ digI r ≤ 15 := by
  unfold digI
  split
  · omega
  · split
    · omega
    · split <;> omega
theorem digI_high {r : Int} (h : 128 ≤ r) : digI r = -1 := by
  unfold digI
  rw [if_neg (by omega), if_neg (by omega), if_neg (by omega)]
theorem isDig_iff (b : Int) (c : UInt8) : isDig b c = true ↔ 0 ≤ digB c ∧ digB c < b := by simp [isDig]
theorem isDig_high {b : Int} {c : UInt8} (h : 128 ≤ c.toNat) : isDig b c = false := by
  rw [← Bool.not_eq_true, isDig_iff, digB, digI_high (by omega)]; omega
theorem refDig_ge {b : Int} (hb : b = 10 ∨ b = 16) (c : UInt8) : (b ≤ refDig c) ↔ isDig b c = false := by
  rw [← Bool.not_eq_true, isDig_iff]
  have := digI_range c.toNat
  unfold refDig digB
  split <;> omega
theorem refDig_of {b : Int} {c : UInt8} (h : isDig b c = true) : refDig c = digB c := by
  rw [isDig_iff] at h
  unfold refDig; rw [if_neg (by omega)]
theorem numV_nil (b : Int) : numV b [] = 0 := rfl
theorem numV_snoc (b : Int) (s : List UInt8) (c : UInt8) : numV b (s ++ [c]) = numV b s * b + digB c := by simp [numV]
theorem numV_go (b : Int) : ∀ (s : List UInt8) (n : Int), s.foldl (fun n c => n * b + digB c) n = n * b ^ s.length + numV b s
  | [], n => by simp [numV]
  | c :: r, n => by
    simp only [List.foldl_cons, List.length_cons, numV]
    rw [numV_go b r, numV_go b r (0 * b + digB c), Int.pow_succ, Int.add_mul]
    have e : n * b * b ^ r.length = n * (b ^ r.length * b) := by rw [Int.mul_assoc, Int.mul_comm b]
    rw [e]
    have z : (0 * b + digB c) = digB c := by omega
    rw [z]
    omega
theorem numV_append (b : Int) (s t : List UInt8) : numV b (s ++ t) = numV b s * b ^ t.length + numV b t := by
  show (s ++ t).foldl _ 0 = _
  rw [List.foldl_append, numV_go]; rfl
theorem numV_cons (b : Int) (c : UInt8) (t : List UInt8) : numV b (c :: t) = digB c * b ^ t.length + numV b t := by
  have := numV_append b [c] t
  simpa [numV] using this
theorem pow_pos {b : Int} (hb : 1 ≤ b) : ∀ n : Nat, 1 ≤ b ^ n
  | 0 => by simp
  | n + 1 => by
    rw [Int.pow_succ]
    have h1 := pow_pos hb n
    have := Int.mul_le_mul h1 hb (by omega) (by omega)
    omega
theorem numV_nonneg {b : Int} (hb : 1 ≤ b) : ∀ (s : List UInt8), s.all (isDig b) = true → 0 ≤ numV b s
  | [], _ => by simp [numV]
  | c :: r, h => by
    simp only [List.all_cons, Bool.and_eq_true] at h
    have h1 := numV_nonneg hb r h.2
    have h2 := (isDig_iff b c).1 h.1
    rw [numV_cons]
    have := Int.mul_nonneg h2.1 (show 0 ≤ b ^ r.length by have := pow_pos hb r.length; omega)
    omega
theorem numV_mono {b : Int} (hb : 1 ≤ b) {s t : List UInt8} (hs : s.all (isDig b) = true) (h : t.all (isDig b) = true) : numV b s ≤ numV b (s ++ t) := by
  rw [numV_append]
  have h1 := numV_nonneg hb t h
  have h2 := numV_nonneg hb s hs
  have h3 := Int.mul_le_mul_of_nonneg_left (pow_pos hb t.length) h2
  omega
theorem all_take {p : UInt8 → Bool} {s : List UInt8} (n : Nat) (h : s.all p = true) : (s.take n).all p = true := by
  rw [List.all_eq_true] at h ⊢
  exact fun x hx => h x (List.mem_of_mem_take hx)
theorem all_drop {p : UInt8 → Bool} {s : List UInt8} (n : Nat) (h : s.all p = true) : (s.drop n).all p = true := by
  rw [List.all_eq_true] at h ⊢
  exact fun x hx => h x (List.mem_of_mem_drop hx)
theorem all_get {p : UInt8 → Bool} {s : List UInt8} {x : Nat} (h : s.all p = true) (hx : x < s.length) : p (s.getD x 0) = true := by
  rw [List.all_eq_true] at h
  exact h _ (List.mem_of_getElem? (getD_of_lt (s := s) (d := 0) hx))
theorem numV_take_le {b : Int} (hb : 1 ≤ b) {s : List UInt8} (h : s.all (isDig b) = true) (n : Nat) : numV b (s.take n) ≤ numV b s := by
  have := numV_mono hb (all_take n h) (all_drop n h)
  rwa [List.take_append_drop] at this
theorem numV_take_succ (b : Int) {s : List UInt8} {x : Nat} (hx : x < s.length) : numV b (s.take (x + 1)) = numV b (s.take x) * b + digB (s.getD x 0) := by
  rw [take_succ_getD 0 hx, numV_snoc]
/-- A number that begins with another digit than 0 is great. -/
theorem numV_great {b : Int} (hb : 1 ≤ b) {s : List UInt8} (h : s.all (isDig b) = true) (hl : 1 ≤ s.length) (h0 : s.getD 0 0 ≠ 48) : b ^ (s.length - 1) ≤ numV b s := by
  cases s with
  | nil => simp at hl
  | cons c r =>
    simp only [List.all_cons, Bool.and_eq_true] at h
    have h2 := (isDig_iff b c).1 h.1
    have h1 := numV_nonneg hb r h.2
    have hc : 1 ≤ digB c := by
      rcases Int.lt_or_le (digB c) 1 with h3 | h3
      · exfalso
        have e : digB c = 0 := by omega
        unfold digB digI at e
        have hn : c.toNat = 48 := by
          split at e
          · omega
          · split at e
            · omega
            · split at e <;> omega
        exact h0 (by simpa using UInt8.toNat.inj (b := 48) (by simpa using hn))
      · exact h3
    rw [numV_cons]
    have := Int.mul_le_mul_of_nonneg_right hc (show 0 ≤ b ^ r.length by have := pow_pos hb r.length; omega)
    simp only [List.length_cons, Nat.add_sub_cancel]
    omega
theorem numV_zero {b : Int} {s : List UInt8} (hl : 1 ≤ s.length) (h0 : s.getD 0 0 = 48) : numV b (s.drop 1) = numV b s := by
  cases s with
  | nil => simp at hl
  | cons c r =>
    simp at h0
    subst h0
    rw [numV_cons]
    have : digB 48 = 0 := by decide
    simp [this]
theorem pow_mono {b : Int} (hb : 1 ≤ b) {m n : Nat} (h : m ≤ n) : b ^ m ≤ b ^ n := by
  induction n with
  | zero => have : m = 0 := by omega
            subst this; exact Int.le_refl _
  | succ n ih =>
    by_cases e : m = n + 1
    · subst e; exact Int.le_refl _
    · have h1 := ih (by omega)
      rw [Int.pow_succ]
      have := Int.mul_le_mul_of_nonneg_left hb (show 0 ≤ b ^ n by have := pow_pos hb n; omega)
      omega
theorem pow_19 {b : Int} (hb : b = 10 ∨ b = 16) {n : Nat} (h : 19 ≤ n) : 9223372036854775807 < b ^ n := by
  have h1 : (1:Int) ≤ b := by omega
  have h2 := pow_mono h1 h
  have h3 : 9223372036854775807 < b ^ 19 := by rcases hb with rfl | rfl <;> decide
  omega

/-- One more digit: is it too much? -/
theorem over_step {b most n d : Int} (hb : b = 10 ∨ b = 16) (hn : 0 ≤ n) (hd : 0 ≤ d) (h : d ≤ most) : ((most - d).tdiv b < n) = (most < n * b + d) := by
  rw [Int.tdiv_eq_ediv_of_nonneg (by omega)]
  apply propext
  rcases hb with rfl | rfl <;> constructor <;> intro h <;> omega

theorem tdiv_range {b m : Int} (hb : b = 10 ∨ b = 16) (h0 : 0 ≤ m) (h1 : m ≤ 9223372036854775807) : 0 ≤ m.tdiv b ∧ m.tdiv b ≤ 9223372036854775807 := by
  rw [Int.tdiv_eq_ediv_of_nonneg h0]
  rcases hb with rfl | rfl <;> omega
theorem num_bad {b most : Int} {s : List UInt8} {x : Nat} (hx : x < s.length) (h : isDig b (s.getD x 0) = false) : numErr b most s = 3 ∧ numVal b most s = 0 := by
  have h1 : ¬ s = [] := fun e => by simp [e] at hx
  have h2 : ¬ s.all (isDig b) = true := fun h2 => by rw [all_get h2 hx] at h; cases h
  have : numErr b most s = 3 := by simp [numErr, h1, h2]
  exact ⟨this, by simp [numVal, this]⟩
theorem num_over {b most : Int} {s : List UInt8} (h1 : ¬ s = []) (h2 : s.all (isDig b) = true) (h : most < numV b s) : numErr b most s = 5 ∧ numVal b most s = 0 := by
  have : numErr b most s = 5 := by simp [numErr, h1, h2, h]
  exact ⟨this, by simp [numVal, this]⟩
theorem num_good {b most : Int} {s : List UInt8} (h1 : ¬ s = []) (h2 : s.all (isDig b) = true) (h : numV b s ≤ most) : numErr b most s = 0 ∧ numVal b most s = numV b s := by
  have : numErr b most s = 0 := by simp [numErr, h1, h2]; omega
  exact ⟨this, by simp [numVal, this]⟩
theorem dig_rune {s : List UInt8} {x : Nat} (hx : x < s.length) : (0 ≤ digI (runeAt s x).1 → (s.getD x 0).toNat < 128) ∧ digI (runeAt s x).1 = digB (s.getD x 0) ∧ (0 ≤ digI (runeAt s x).1 → (runeAt s x).2 = 1) := by
  by_cases hl : (s.getD x 0).toNat < 128
  · rw [rune_low hl]; exact ⟨fun _ => hl, rfl, fun _ => rfl⟩
  · obtain ⟨h1, _⟩ := rune_high hx (by omega)
    rw [digI_high h1]
    refine ⟨fun h => by omega, ?_, fun h => by omega⟩
    rw [digB, digI_high (by omega)]

theorem refDig_lt {b : Int} (hb : b = 10 ∨ b = 16) (c : UInt8) : (refDig c < b) ↔ isDig b c = true := by
  have := refDig_ge hb c
  rw [← Bool.not_eq_false, ← this]; omega

/-! ### digits -/
def sign16 : List UInt8 := [48, 49, 50, 51, 52, 53, 54, 55, 56, 57, 97, 98, 99, 100, 101, 102]
def signN (n : Nat) : UInt8 := sign16.getD n 0
def digsF (b : Nat) : Nat → Nat → List UInt8
  | 0, _ => []
  | f + 1, n => if n < b then [signN n] else digsF b f (n / b) ++ [signN (n % b)]
def digs (b n : Nat) : List UInt8 := digsF b 70 n
theorem half_lt {b n f : Nat} (hb : 2 ≤ b) (h : n < 2 ^ (f + 1)) : n / b < 2 ^ f := by
  have h1 : n / b ≤ n / 2 := Nat.div_le_div_left hb (by omega)
  rw [Nat.pow_succ] at h
  omega
theorem digsF_eq {b : Nat} (hb : 2 ≤ b) : ∀ (f f' n : Nat), n < 2 ^ f → n < 2 ^ f' → 1 ≤ f → 1 ≤ f' → digsF b f n = digsF b f' n
  | 0, _, n, _, _, hf, _ => by omega
  | _, 0, n, _, _, _, hf => by omega
  | f + 1, f' + 1, n, h, h', _, _ => by
    simp only [digsF]
    by_cases e : n < b
    · rw [if_pos e, if_pos e]
    · rw [if_neg e, if_neg e]
      have hp : 1 ≤ n / b := (Nat.le_div_iff_mul_le (by omega)).2 (by omega)
      have g := half_lt hb h
      have g' := half_lt hb h'
      have f1 : 1 ≤ f := by
        cases f with
        | zero => simp at g; omega
        | succ f => omega
      have f2 : 1 ≤ f' := by
        cases f' with
        | zero => simp at g'; omega
        | succ f' => omega
      rw [digsF_eq hb f f' (n / b) g g' f1 f2]
theorem digs_small {b n : Nat} (h : n < b) : digs b n = [signN n] := by simp only [digs, digsF, if_pos h]
theorem digs_step {b n : Nat} (hb : 2 ≤ b) (hn : n < 18446744073709551616) (h : b ≤ n) : digs b n = digs b (n / b) ++ [signN (n % b)] := by
  have h70 : n < 2 ^ 70 := by have : (18446744073709551616 : Nat) ≤ 2 ^ 70 := by decide
                              omega
  have hp : 1 ≤ n / b := (Nat.le_div_iff_mul_le (by omega)).2 (by omega)
  show digsF b 70 n = _
  rw [show digsF b 70 n = if n < b then [signN n] else digsF b 69 (n / b) ++ [signN (n % b)] from rfl, if_neg (by omega)]
  congr 1
  have h2 : n / b ≤ n := Nat.div_le_self _ _
  exact digsF_eq hb 69 70 _ (half_lt hb h70) (by omega) (by omega) (by omega)
theorem digsF_len {b : Nat} : ∀ f n, (digsF b f n).length ≤ f
  | 0, _ => by simp [digsF]
  | f + 1, n => by
    have := digsF_len (b := b) f (n / b)
    simp only [digsF]; split <;> simp <;> omega
theorem digs_len (b n : Nat) : (digs b n).length ≤ 70 := digsF_len 70 n
theorem digsF_pos {b : Nat} (f n : Nat) : 1 ≤ (digsF b (f + 1) n).length := by
  simp only [digsF]; split <;> simp
theorem digs_pos (b n : Nat) : 1 ≤ (digs b n).length := digsF_pos 69 n
def textI (n : Int) : List UInt8 := if n < 0 then 45 :: digs 10 n.natAbs else digs 10 n.natAbs
def hexS (n : Int) : List UInt8 := if n < 0 then [] else digs 16 n.natAbs
def padS (n wide : Int) : List UInt8 := if n < 0 then textI n else List.replicate (max 0 (min wide 20 - ((textI n).length : Int))).toNat 48 ++ textI n
theorem textI_len (n : Int) : (textI n).length ≤ 71 := by
  have := digs_len 10 n.natAbs
  unfold textI; split <;> simp <;> omega
theorem textI_pos (n : Int) : 1 ≤ (textI n).length := by
  have := digs_pos 10 n.natAbs
  unfold textI; split <;> simp <;> omega
theorem drop_set_at {α : Type} {l : List α} {i : Nat} (h : i < l.length) (v : α) : (l.set i v).drop i = v :: l.drop (i + 1) := by
  rw [List.set_eq_take_append_cons_drop, if_pos h, List.drop_left' (by simp; omega)]
theorem max_abs (d : Int) : max d (0 - d) = (d.natAbs : Int) := by omega
theorem sign_slice : ∀ k, k < 16 → List.drop k (List.take (k + 1) sign16) = [signN k] := by decide
theorem sign_slice' (k : Nat) (h : k < 16) : List.drop k (48 :: List.take k [49, 50, 51, 52, 53, 54, 55, 56, 57, 97, 98, 99, 100, 101, 102]) = [signN k] := by
  have := sign_slice k h
  simpa only [sign16, List.take_succ_cons] using this
theorem tmod_nat {b : Int} (hb : b = 10 ∨ b = 16) (m : Nat) : (m : Int).tmod b = ((m % b.toNat : Nat) : Int) ∧ (m : Int).tdiv b = ((m / b.toNat : Nat) : Int) := by
  rw [Int.tmod_eq_emod_of_nonneg (by omega), Int.tdiv_eq_ediv_of_nonneg (by omega)]
  rcases hb with rfl | rfl
  · exact ⟨by simp, by simp⟩
  · exact ⟨by simp, by simp⟩
end Go.Mdl
