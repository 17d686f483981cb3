/- chunk: what is computed. No condition. -/
import Derived.Test.YtanpmebamgnhbaaParL
import Derived.Test.YtanpmebamgnhbaaDigM
import Derived.Test.YtanpmebamgnhbaaLibM
set_option linter.unusedVariables false
set_option linter.unusedSimpArgs false
namespace Go.Mdl
open Go Go.Abs

theorem sign_dig : ∀ k, k < 16 → digB (signN k) = (k : Int) := by decide
theorem digs_num {B : Nat} (hB : B = 10 ∨ B = 16) : ∀ n : Nat, n < 18446744073709551616 → (digs B n).all (isDig B) = true ∧ numV B (digs B n) = n := by
  intro n
  induction n using Nat.strongRecOn with
  | _ n ih =>
    intro hn
    by_cases h : n < B
    · have hs := sign_dig n (by omega)
      rw [digs_small h]
      refine ⟨?_, ?_⟩
      · simp only [List.all_cons, List.all_nil, Bool.and_true, isDig_iff, hs]; omega
      · simp [numV, hs]
    · have hlt : n / B < n := Nat.div_lt_self (by omega) (by omega)
      obtain ⟨h1, h2⟩ := ih (n / B) hlt (by omega)
      have hm := Nat.mod_lt n (show B > 0 by omega)
      have hs := sign_dig (n % B) (by omega)
      rw [digs_step (by omega) hn (by omega)]
      refine ⟨?_, ?_⟩
      · simp only [List.all_append, h1, List.all_cons, List.all_nil, Bool.and_true, Bool.true_and, isDig_iff, hs]; omega
      · rw [numV_snoc, h2, hs]
        have := Nat.div_add_mod n B
        have e : ((n / B : Nat) : Int) * (B : Int) + ((n % B : Nat) : Int) = ((B * (n / B) + n % B : Nat) : Int) := by
          rw [Int.natCast_add, Int.natCast_mul, Int.mul_comm]
        rw [e, this]

def hexC (c : UInt8) : Bool := isDig 16 c
def chkSize (s : List UInt8) : List UInt8 := s.take (spanL hexC s)
def chkRest (s : List UInt8) : List UInt8 := s.drop (spanL hexC s)
def chkExt (r : List UInt8) : Bool := (parsGo r).isSome
def chkBad (s : List UInt8) : Bool := decide (spanL hexC s = 0) || !chkExt (chkRest s)
def chkVal (s : List UInt8) : Int := if s = [] then 0 else if chkBad s = true then 0 else numVal 16 2147483647 (chkSize s)
def chkErr (s : List UInt8) : Int := if s = [] then 2 else if chkBad s = true then 3 else numErr 16 2147483647 (chkSize s)
def chkLine (n : Int) : List UInt8 := if n < 0 then [] else hexS n ++ [13, 10]
def szs (e n : Nat) : List Int := if n ≤ e then [(n : Int)] else if e = 0 then [] else (e : Int) :: szs e (n - e)
termination_by n
def chkSizes (n e : Int) : List Int := if n < 1 ∨ 1048576 < n ∨ e < 1 then [] else szs e.toNat n.toNat
theorem szs_last {e n : Nat} (h : n ≤ e) : szs e n = [(n : Int)] := by rw [szs, if_pos h]
theorem szs_step {e n : Nat} (h0 : 1 ≤ e) (h : e < n) : szs e n = (e : Int) :: szs e (n - e) := by rw [szs, if_neg (by omega), if_neg (by omega)]
theorem szs_len {e : Nat} (h0 : 1 ≤ e) : ∀ n : Nat, (szs e n).length ≤ n + 1 := by
  intro n
  induction n using Nat.strongRecOn with
  | _ n ih =>
    by_cases h : n ≤ e
    · rw [szs_last h]; simp
    · rw [szs_step h0 (by omega)]
      have := ih (n - e) (by omega)
      simp only [List.length_cons]; omega
theorem szs_range {e : Nat} (h0 : 1 ≤ e) : ∀ n : Nat, 1 ≤ n → (∀ k ∈ szs e n, 1 ≤ k ∧ k ≤ (e : Int)) ∧ (szs e n).sum = n := by
  intro n
  induction n using Nat.strongRecOn with
  | _ n ih =>
    intro hn
    by_cases h : n ≤ e
    · rw [szs_last h]; simp; omega
    · rw [szs_step h0 (by omega)]
      obtain ⟨h1, h2⟩ := ih (n - e) (by omega) (by omega)
      refine ⟨fun k hk => ?_, ?_⟩
      · rcases List.mem_cons.1 hk with rfl | hk
        · omega
        · exact h1 k hk
      · rw [List.sum_cons, h2]; omega
theorem chkSizes_range (n e : Int) : ∀ k ∈ chkSizes n e, 1 ≤ k ∧ k ≤ e := by
  unfold chkSizes
  split
  · simp
  · intro k hk
    have := (szs_range (e := e.toNat) (by omega) n.toNat (by omega)).1 k hk
    omega
theorem chkSizes_sum {n e : Int} (h0 : 0 ≤ n) (h : n ≤ 2000) : (chkSizes n e).sum = if 1 ≤ e then n else 0 := by
  unfold chkSizes
  split
  · split
    · simp; omega
    · rfl
  · have := (szs_range (e := e.toNat) (by omega) n.toNat (by omega)).2
    rw [if_pos (by omega), this]; omega
theorem chkSizes_len (n e : Int) : (chkSizes n e).length ≤ 1048577 := by
  unfold chkSizes
  split
  · simp
  · have := szs_len (e := e.toNat) (by omega) n.toNat
    omega

theorem sum_nonneg : ∀ {l : List Int}, (∀ x ∈ l, 1 ≤ x) → 0 ≤ l.sum
  | [], _ => by simp
  | a :: r, h => by
    have h1 := sum_nonneg (l := r) (fun x hx => h x (List.mem_cons_of_mem _ hx))
    have h2 := h a (by simp)
    rw [List.sum_cons]; omega
theorem sum_take {l : List Int} (h : ∀ x ∈ l, 1 ≤ x) (k : Nat) : 0 ≤ (l.take k).sum ∧ (l.take k).sum ≤ l.sum := by
  have e : l.sum = (l.take k).sum + (l.drop k).sum := by rw [← List.sum_append, List.take_append_drop]
  have h1 := sum_nonneg (l := l.take k) (fun x hx => h x (List.mem_of_mem_take hx))
  have h2 := sum_nonneg (l := l.drop k) (fun x hx => h x (List.mem_of_mem_drop hx))
  omega
theorem sum_take_succ {l : List Int} {k : Nat} (h : k < l.length) : (l.take (k + 1)).sum = (l.take k).sum + l.getD k 0 := by
  rw [take_succ_getD 0 h, List.sum_append]; simp
theorem ext_head {r : List UInt8} (h0 : r ≠ []) (h : chkExt r = true) : r.getD 0 0 = 59 ∨ r.getD 0 0 = 32 ∨ r.getD 0 0 = 9 := by
  have hb : parBad r = false := by
    rw [← Bool.not_eq_true]; intro hb
    rw [chkExt, parsGo_bad h0 hb] at h; cases h
  have hs : semi r = true := by
    simp only [parBad, Bool.or_eq_false_iff, Bool.not_eq_false'] at hb; exact hb.1
  simp only [semi, decide_eq_true_eq] at hs
  cases r with
  | nil => exact absurd rfl h0
  | cons c t =>
    simp only [List.getD_cons_zero]
    cases hc : blankB c with
    | true =>
      have : c = 32 ∨ c = 9 := by simpa [blankB] using hc
      rcases this with h | h <;> simp [h]
    | false =>
      rw [span_zero hc] at hs
      simp at hs
      exact .inl hs
theorem ext_iff {r : List UInt8} (h0 : r ≠ []) : (decide (parsErr (120 :: r) = 0) && decide (0 ≤ idxB (r.getD 0 0) [59, 32, 9])) = chkExt r := by
  by_cases hc : r.getD 0 0 = 59 ∨ r.getD 0 0 = 32 ∨ r.getD 0 0 = 9
  · have hi : decide (0 ≤ idxB (r.getD 0 0) [59, 32, 9]) = true := by
      rcases hc with h | h | h <;> rw [h] <;> decide +kernel
    have ht : tcharB (r.getD 0 0) = false := by
      rcases hc with h | h | h <;> rw [h] <;> decide +kernel
    have hs : spanL tcharB (120 :: r) = 1 := by
      have := span_stop (p := tcharB) (a := [120]) (r := r) (by decide +kernel) (by
        cases r with
        | nil => exact .inl rfl
        | cons c t => exact .inr ⟨c, t, rfl, by simpa using ht⟩)
      exact this
    have hr : restP (120 :: r) = r := by rw [restP, hs]; rfl
    rw [hi, Bool.and_true]
    have hok : parsOk (120 :: r) = chkExt r := by simp [parsOk, hs, hr, chkExt]
    unfold parsErr
    rw [if_neg (by simp), hok]
    cases chkExt r <;> rfl
  · have hi : decide (0 ≤ idxB (r.getD 0 0) [59, 32, 9]) = false := by
      rw [decide_eq_false_iff_not]
      intro h
      unfold idxB at h
      split at h
      · rename_i hu
        apply hc
        generalize r.getD 0 0 = c at *
        by_cases h1 : c = 59
        · exact .inl h1
        · by_cases h2 : c = 32
          · exact .inr (.inl h2)
          · by_cases h3 : c = 9
            · exact .inr (.inr h3)
            · exfalso
              have e : upTo c [59, 32, 9] = 3 := by
                simp [upTo, Ne.symm h1, Ne.symm h2, Ne.symm h3]
              rw [e] at hu; simp at hu
      · omega
    rw [hi, Bool.and_false]
    symm
    rw [← Bool.not_eq_true]
    exact fun h => hc (ext_head h0 h)
theorem chkRest_len (s : List UInt8) : (chkRest s).length ≤ s.length := by simp [chkRest]
theorem chk_line {n : Int} (h0 : 0 ≤ n) (h : n ≤ 2000) : chkErr (hexS n) = 0 ∧ chkVal (hexS n) = n := by
  have e : hexS n = digs 16 n.natAbs := by simp [hexS, Int.not_lt.2 h0]
  obtain ⟨h1, h2⟩ := digs_num (.inr rfl) n.natAbs (by omega)
  have hp := digs_pos 16 n.natAbs
  have hs : spanL hexC (digs 16 n.natAbs) = (digs 16 n.natAbs).length := span_end h1
  have hne : digs 16 n.natAbs ≠ [] := fun h => by rw [h] at hp; simp at hp
  have hr : chkRest (digs 16 n.natAbs) = [] := by rw [chkRest, hs, List.drop_length]
  have hsz : chkSize (digs 16 n.natAbs) = digs 16 n.natAbs := by rw [chkSize, hs, List.take_length]
  have hb : chkBad (digs 16 n.natAbs) = false := by
    simp only [chkBad, hr, chkExt, parsGo_nil, hs]
    simp; exact hne
  have hn : numV 16 (digs 16 n.natAbs) = n := by
    have : ((16 : Nat) : Int) = 16 := rfl
    rw [this] at h2
    rw [h2]; omega
  have hg := num_good (b := 16) (most := 2147483647) hne h1 (by rw [hn]; omega)
  rw [e]
  refine ⟨?_, ?_⟩
  · rw [chkErr, if_neg hne, if_neg (by rw [hb]; simp), hsz, hg.1]
  · rw [chkVal, if_neg hne, if_neg (by rw [hb]; simp), hsz, hg.2, hn]
end Go.Mdl
