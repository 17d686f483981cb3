/- lists: the walks of the document's answer. No condition beyond those that a machine's numbers bring. -/
import Derived.Test.YtanpmebamgnhbaaListsM
import Derived.Test.YtanpmebamgnhbaaOctC
import Derived.Test.YtanpmebamgnhbaaLib
set_option linter.unusedVariables false
set_option linter.unusedSimpArgs false
namespace Go.Mdl
open Go Go.Abs
/-- Where what is closed in ends. -/
def behindI (s : List UInt8) (at' : Nat) : Int := match closeAt scan0 (s.drop at') with | some n => ((at' + n : Nat) : Int) | none => -1
theorem closeAt_cons (x : Scan) (c : UInt8) (r : List UInt8) : closeAt x (c :: r) = if (x.see c).closed = true then some 1 else (closeAt (x.see c) r).map (· + 1) := rfl
theorem behind_of {s : List UInt8} {a i : Nat} {x : Scan} (h : closeAt scan0 (s.drop a) = (closeAt x (s.drop i)).map (· + (i - a))) (ha : a ≤ i) :
    (closeAt x (s.drop i) = some 1 → behindI s a = ((i + 1 : Nat) : Int)) ∧ (closeAt x (s.drop i) = none → behindI s a = -1) := by
  refine ⟨fun h1 => ?_, fun h1 => ?_⟩
  · rw [h1] at h; simp only [behindI, h, Option.map_some]; omega
  · rw [h1] at h; simp only [behindI, h, Option.map_none]
theorem behind_step {s : List UInt8} {a i : Nat} {x : Scan} (h : closeAt scan0 (s.drop a) = (closeAt x (s.drop i)).map (· + (i - a))) (ha : a ≤ i) (hi : i < s.length) (hc : (x.see (s.getD i 0)).closed = false) :
    closeAt scan0 (s.drop a) = (closeAt (x.see (s.getD i 0)) (s.drop (i + 1))).map (· + (i + 1 - a)) := by
  rw [h, drop_cons hi, closeAt_cons, if_neg (by rw [hc]; simp), Option.map_map]
  congr 1
  funext n
  simp only [Function.comp]; omega
theorem behind_end {s : List UInt8} {a i : Nat} {x : Scan} (h : closeAt scan0 (s.drop a) = (closeAt x (s.drop i)).map (· + (i - a))) (ha : a ≤ i) (hi : s.length ≤ i) : behindI s a = -1 :=
  (behind_of h ha).2 (by rw [List.drop_eq_nil_of_le hi]; rfl)
theorem behind_close {s : List UInt8} {a i : Nat} {x : Scan} (h : closeAt scan0 (s.drop a) = (closeAt x (s.drop i)).map (· + (i - a))) (ha : a ≤ i) (hi : i < s.length) (hc : (x.see (s.getD i 0)).closed = true) : behindI s a = ((i + 1 : Nat) : Int) :=
  (behind_of h ha).1 (by rw [drop_cons hi, closeAt_cons, if_pos hc])
theorem behindI_lt {s : List UInt8} {a : Nat} {n : Nat} (h : behindI s a = (n : Int)) : ∃ k, closeAt scan0 (s.drop a) = some k ∧ n = a + k ∧ 1 ≤ k ∧ a + k ≤ s.length := by
  unfold behindI at h
  cases hc : closeAt scan0 (s.drop a) with
  | none => rw [hc] at h; simp only at h; omega
  | some k =>
    rw [hc] at h; simp only at h
    have := closeAt_le hc
    rw [List.length_drop] at this
    exact ⟨k, rfl, by omega, by omega, by omega⟩
end Go.Mdl
namespace Go.Proofs.Try.Lists
open Go Go.Abs Go.Proofs Go.Mdl

def T_specBehind : Tbl := fun g E args => nilT g E args
theorem T_specBehind_ok : TblOK Try.prog T_specBehind := nilT_ok
set_option maxRecDepth 100000 in
set_option maxHeartbeats 4000000 in
theorem specBehind (s : List UInt8) (a : Nat) (hs : s.length ≤ 100000000) (ha : a < s.length) (hc : s.getD a 0 = 34 ∨ s.getD a 0 = 40) : SpecE Try.prog 143 [] [.str s, .int .i64 (a : Int)] [] (.int .i64 (behindI s a)) := by
  refine specF0 (C := T_specBehind) (wr := false) (D := fun _ => []) (U := fun _ => none) (res := [.int .i64 (behindI s a)]) Try.Ty.mixed T_specBehind_ok Try.func143 (nA := 2) (by decide +kernel) rfl (fun _ => rfl) ?_
  simp only [Try.f143, bodyOf, rlOf]
  rw [W_V]
  simp (config := {maxSteps := 2000000}) only [T_specBehind, go_sem, reduceIte, Nat.reduceEqDiff, Nat.reduceAdd, Nat.reduceMul, Nat.reduceSub, Nat.reduceBEq, Nat.reduceLT, Nat.reduceLeDiff, reduceCtorEq, Int.reduceNeg, Int.reduceEq, String.reduceEq, Int.reduceLT, Int.reduceLE, Int.reduceToNat, Int.reduceAdd, Int.reduceMul, Int.reduceSub]
  (try simp (config := {maxSteps := 2000000}) only [gimp, impB, isT, go_sem, reduceIte, Nat.reduceEqDiff, Nat.reduceAdd, Nat.reduceMul, Nat.reduceSub, Nat.reduceBEq, Nat.reduceLT, Nat.reduceLeDiff, reduceCtorEq, Int.reduceNeg, Int.reduceEq, String.reduceEq, Int.reduceLT, Int.reduceLE, Int.reduceToNat, Int.reduceAdd, Int.reduceMul, Int.reduceSub])
  refine ⟨by omega, ?_⟩
  refine VL_inv (X := Nat × Scan) (fun y => ⟨[(0, .str s), (1, .int .i64 a), (5, .bool (decide (s.getD a 0 = 34))), (6, .int .i64 y.2.d), (7, .int .i64 y.1)], []⟩)
    (fun y => a ≤ y.1 ∧ y.1 ≤ s.length + 1 ∧ y.2.d ≤ y.1 ∧ (y.1 = a → y.2 = scan0) ∧ (a < y.1 → y.2.s = false ∧ y.2.q = decide (s.getD a 0 = 34) ∧ (y.2.q = true ↔ y.2.d = 0)) ∧ closeAt scan0 (s.drop a) = (closeAt y.2 (s.drop y.1)).map (· + (y.1 - a))) (fun y => s.length + 1 - y.1) (a, scan0) ?_ ?_ ?_
  · simp only [go_sem, go_sem, reduceIte, Nat.reduceEqDiff, Nat.reduceAdd, Nat.reduceMul, Nat.reduceSub, Nat.reduceBEq, Nat.reduceLT, Nat.reduceLeDiff, reduceCtorEq, Int.reduceNeg, Int.reduceEq, String.reduceEq, Int.reduceLT, Int.reduceLE, Int.reduceToNat, Int.reduceAdd, Int.reduceMul, Int.reduceSub]
    try rfl
  · refine ⟨Nat.le_refl _, by simp only; omega, Nat.zero_le _, fun _ => rfl, fun h => absurd h (Nat.lt_irrefl _), ?_⟩
    simp
  rintro ⟨i, x⟩ ⟨i1, i2, i3, i4, i5, i6⟩
  simp only at i1 i2 i3 i4 i5 i6
  simp (config := {maxSteps := 2000000}) only [T_specBehind, go_sem, reduceIte, Nat.reduceEqDiff, Nat.reduceAdd, Nat.reduceMul, Nat.reduceSub, Nat.reduceBEq, Nat.reduceLT, Nat.reduceLeDiff, reduceCtorEq, Int.reduceNeg, Int.reduceEq, String.reduceEq, Int.reduceLT, Int.reduceLE, Int.reduceToNat, Int.reduceAdd, Int.reduceMul, Int.reduceSub]
  (try simp (config := {maxSteps := 2000000}) only [gimp, impB, isT, go_sem, reduceIte, Nat.reduceEqDiff, Nat.reduceAdd, Nat.reduceMul, Nat.reduceSub, Nat.reduceBEq, Nat.reduceLT, Nat.reduceLeDiff, reduceCtorEq, Int.reduceNeg, Int.reduceEq, String.reduceEq, Int.reduceLT, Int.reduceLE, Int.reduceToNat, Int.reduceAdd, Int.reduceMul, Int.reduceSub])
  have hia : i = a → s.getD i 0 = s.getD a 0 := fun h => by rw [h]
  generalize s.getD a 0 = c0 at *
  have open' : a < i → x = ⟨decide (c0 = 34), false, x.d⟩ ∧ (c0 = 34 ↔ x.d = 0) := fun h => by
    obtain ⟨h1, h2, h3⟩ := i5 h
    refine ⟨by rw [← h1, ← h2], ?_⟩
    rw [h2, decide_eq_true_eq] at h3; exact h3
  have at0 : i = a → x.d = 0 := fun h => by rw [i4 h]; rfl
  (repeat' (first | refine And.intro ?_ ?_ | intro _))
  all_goals (try first | omega | assumption | contradiction)
  · rename_i h1 h2
    have hai : a < i := by
      rcases Nat.lt_or_ge a i with h | h
      · exact h
      · have e := hia (by omega)
        rw [h2] at e; rw [← e] at hc; exact absurd hc (by decide)
    obtain ⟨e1, e2⟩ := open' hai
    have s1 : x.see (s.getD i 0) = ⟨x.q, true, x.d⟩ := by
      rw [h2, e1]
      by_cases h34 : c0 = 34
      · simp [Scan.see, h34]
      · have : 0 < x.d := Nat.pos_of_ne_zero fun e => h34 (e2.2 e)
        simp [Scan.see, h34, this]
    have t1 := behind_step i6 i1 (by omega) (by rw [s1]; simp [Scan.closed])
    rw [s1] at t1
    by_cases hl : i + 1 < s.length
    · have s2 : (Scan.mk x.q true x.d).see (s.getD (i + 1) 0) = x := by rw [e1]; simp [Scan.see]
      have hcl : x.closed = false := by
        rw [e1]
        by_cases h34 : c0 = 34
        · simp [Scan.closed, h34]
        · have : ¬ x.d = 0 := fun e => h34 (e2.2 e)
          simp [Scan.closed, this]
      have t2 := behind_step t1 (by omega) hl (by rw [s2]; exact hcl)
      rw [s2] at t2
      exact ⟨(i + 2, x), ⟨rfl, by simp only; omega⟩, ⟨by simp only; omega, by simp only; omega, by simp only; omega, fun h => by simp only at h; omega, fun _ => i5 hai, t2⟩, by simp only; omega⟩
    · refine ⟨(i + 2, x), ⟨rfl, by simp only; omega⟩, ⟨by simp only; omega, by simp only; omega, by simp only; omega, fun h => by simp only at h; omega, fun _ => i5 hai, ?_⟩, by simp only; omega⟩
      simp only
      rw [t1, List.drop_eq_nil_of_le (by omega), List.drop_eq_nil_of_le (by omega)]; rfl
  · rename_i h1 h2 h3 h4 h5
    obtain ⟨e1, e2⟩ := open' (by omega)
    refine (by omega : ((i : Int) + 1 = ((i + 1 : Nat) : Int))).trans (behind_close i6 i1 (by omega) ?_).symm
    rw [h5, e1, e2.1 h3]
    simp [Scan.see, Scan.closed, h3]
  · rename_i h1 h2 h3 h4 h5
    have s1 : x.see (s.getD i 0) = ⟨false, false, x.d + 1⟩ := by
      rw [h5]
      rcases Nat.lt_or_ge a i with h | h
      · rw [(open' h).1]; simp [Scan.see, h4]
      · rw [i4 (by omega)]; rfl
    have t1 := behind_step i6 i1 (by omega) (by rw [s1]; simp [Scan.closed])
    rw [s1] at t1
    exact ⟨(i + 1, ⟨false, false, x.d + 1⟩), ⟨by simp only; omega, by simp only; omega⟩, ⟨by simp only; omega, by simp only; omega, by simp only; omega, fun h => by simp only at h; omega, fun _ => ⟨rfl, by simp [h4], by simp⟩, t1⟩, by simp only; omega⟩
  · rename_i h1 h2 h3 h4 h5 h6 h7
    have hai : a < i := by
      rcases Nat.lt_or_ge a i with h | h
      · exact h
      · have := at0 (by omega); omega
    obtain ⟨e1, e2⟩ := open' hai
    refine (by omega : ((i : Int) + 1 = ((i + 1 : Nat) : Int))).trans (behind_close i6 i1 (by omega) ?_).symm
    have : x.d = 1 := by omega
    rw [h6, e1, this]
    simp [Scan.see, Scan.closed, h5]
  · rename_i h1 h2 h3 h4 h5 h6 h7
    have hai : a < i := by
      rcases Nat.lt_or_ge a i with h | h
      · exact h
      · have e := hia (by omega)
        rw [h6] at e; rw [← e] at hc; exact absurd hc (by decide)
    obtain ⟨e1, e2⟩ := open' hai
    have hd : 1 < x.d := by
      have : ¬ x.d = 0 := fun e => h5 (e2.2 e)
      omega
    have s1 : x.see (s.getD i 0) = ⟨false, false, x.d - 1⟩ := by
      rw [h6, e1]
      have : 0 < x.d := by omega
      simp [Scan.see, h5, this]
    have t1 := behind_step i6 i1 (by omega) (by rw [s1]; simp [Scan.closed]; omega)
    rw [s1] at t1
    exact ⟨(i + 1, ⟨false, false, x.d - 1⟩), ⟨by simp only; omega, by simp only; omega⟩, ⟨by simp only; omega, by simp only; omega, by simp only; omega, fun h => by simp only at h; omega, fun _ => ⟨rfl, by simp [h5], by simp; omega⟩, t1⟩, by simp only; omega⟩
  · rename_i h1 h2 h3 h4 h5
    have s1 : x.see (s.getD i 0) = ⟨decide (c0 = 34), false, x.d⟩ := by
      rcases Nat.lt_or_ge a i with h | h
      · obtain ⟨e1, e2⟩ := open' h
        by_cases h34 : c0 = 34
        · have h6 : ¬ s.getD i 0 = 34 := fun e => by
            rw [decide_eq_true h34, decide_eq_true (by omega), decide_eq_true e] at h3; cases h3
          rw [e1]
          simp only [Scan.see, h34, h2, h6, decide_true, decide_false, Bool.false_eq_true, if_false, if_true, Bool.not_false]
        · have h6 : ¬ s.getD i 0 = 40 := fun e => by
            rw [decide_eq_false h34, decide_eq_true e] at h4; cases h4
          have h7 : ¬ s.getD i 0 = 41 := fun e => by
            rw [decide_eq_false h34, decide_eq_true e] at h5; cases h5
          have h8 : ¬ x.d = 0 := fun e => h34 (e2.2 e)
          rw [e1]
          simp only [Scan.see, h34, h2, h6, h7, h8, decide_false, Bool.false_eq_true, if_false, and_false, false_and]
      · have e := hia (by omega)
        rw [i4 (by omega), e]
        rcases hc with h6 | h6
        · rw [h6]; rfl
        · exfalso
          rw [e, h6] at h4; revert h4; decide
    have hop : c0 = 34 ↔ x.d = 0 := by
      rcases Nat.lt_or_ge a i with h | h
      · exact (open' h).2
      · have e := hia (by omega)
        rcases hc with h6 | h6
        · exact ⟨fun _ => at0 (by omega), fun _ => h6⟩
        · exfalso
          rw [e, h6] at h4; revert h4; decide
    have t1 := behind_step i6 i1 (by omega) (by
      rw [s1]
      by_cases h34 : c0 = 34
      · simp [Scan.closed, h34]
      · have : ¬ x.d = 0 := fun e => h34 (hop.2 e)
        simp [Scan.closed, this])
    rw [s1] at t1
    exact ⟨(i + 1, ⟨decide (c0 = 34), false, x.d⟩), ⟨rfl, by simp only; omega⟩, ⟨by simp only; omega, by simp only; omega, by simp only; omega, fun h => by simp only at h; omega, fun _ => ⟨rfl, rfl, by rw [decide_eq_true_eq]; exact hop⟩, t1⟩, by simp only; omega⟩
  · exact (behind_end i6 i1 (by omega)).symm

def tb_specBehind : List Blk → List AV → Option (List Blk × AV × Prop)
  | [], [.str s, .int .i64 a] => some ([], .int .i64 (behindI s a.toNat), 0 ≤ a ∧ s.length ≤ 100000000 ∧ a < s.length ∧ (s.getD a.toNat 0 = 34 ∨ s.getD a.toNat 0 = 40))
  | _, _ => none
theorem tb_specBehind_ok : ∀ E args E' res q, tb_specBehind E args = some (E', res, q) → q → SpecE Try.prog 143 E args E' res := by
  intro E args E' res q h hq
  unfold tb_specBehind at h
  split at h
  · rename_i s a
    simp only [Option.some.injEq, Prod.mk.injEq] at h
    obtain ⟨rfl, rfl, rfl⟩ := h
    obtain ⟨h0, h1, h2, h3⟩ := hq
    have := specBehind s a.toNat h1 (by omega) h3
    rw [show ((a.toNat : Nat) : Int) = a by omega] at this
    exact this
  · cases h

def T_specSplitR : Tbl := fun g E args => (addT (addT nilT 143 Go.Proofs.Try.Lists.tb_specBehind) 144 Go.Proofs.Try.Oct.tb_specTrimR) g E args
theorem T_specSplitR_ok : TblOK Try.prog T_specSplitR := (addT_ok (addT_ok nilT_ok (by decide +kernel) Go.Proofs.Try.Lists.tb_specBehind_ok) (by decide +kernel) Go.Proofs.Try.Oct.tb_specTrimR_ok)
set_option maxRecDepth 100000 in
set_option maxHeartbeats 4000000 in
theorem specSplitR (s : List UInt8) (hs : s.length ≤ 100000000) : SpecE Try.prog 36 [] [.str s] [] (.tuple [enc_strs (splitS s), .bool (endsS s)]) := by
  refine specF0 (C := T_specSplitR) (wr := false) (D := fun _ => []) (U := fun _ => none) (res := [enc_strs (splitS s), .bool (endsS s)]) Try.Ty.mixed T_specSplitR_ok Try.func36 (nA := 1) (by decide +kernel) rfl (fun _ => rfl) ?_
  simp only [Try.f36, bodyOf, rlOf]
  rw [W_V]
  simp (config := {maxSteps := 2000000}) only [T_specSplitR, Go.Proofs.Try.Lists.tb_specBehind, Go.Proofs.Try.Oct.tb_specTrimR, go_sem, reduceIte, Nat.reduceEqDiff, Nat.reduceAdd, Nat.reduceMul, Nat.reduceSub, Nat.reduceBEq, Nat.reduceLT, Nat.reduceLeDiff, reduceCtorEq, Int.reduceNeg, Int.reduceEq, String.reduceEq, Int.reduceLT, Int.reduceLE, Int.reduceToNat, Int.reduceAdd, Int.reduceMul, Int.reduceSub]
  (try simp (config := {maxSteps := 2000000}) only [gimp, impB, isT, go_sem, reduceIte, Nat.reduceEqDiff, Nat.reduceAdd, Nat.reduceMul, Nat.reduceSub, Nat.reduceBEq, Nat.reduceLT, Nat.reduceLeDiff, reduceCtorEq, Int.reduceNeg, Int.reduceEq, String.reduceEq, Int.reduceLT, Int.reduceLE, Int.reduceToNat, Int.reduceAdd, Int.reduceMul, Int.reduceSub])
  refine VL_inv (X := Nat × Nat × List (List UInt8)) (fun y => ⟨[(0, .str s), (4, .ref 176 0 y.2.2.length y.2.2.length), (5, .int .i64 y.2.1), (6, .int .i64 y.1)], [(176, .cells 1 false (.str []) (y.2.2.map .str))]⟩)
    (fun y => y.1 ≤ s.length ∧ y.2.1 ≤ y.1 ∧ y.2.2.length ≤ y.2.1 ∧ elemsS s = y.2.2 ++ elemsGo scan0 ((s.take y.1).drop y.2.1) (s.drop y.1) ∧ endsS s = (scan0.run (s.drop y.1)).closed) (fun y => s.length - y.1) (0, 0, []) ?_ ?_ ?_
  · simp only [go_sem, go_sem, reduceIte, Nat.reduceEqDiff, Nat.reduceAdd, Nat.reduceMul, Nat.reduceSub, Nat.reduceBEq, Nat.reduceLT, Nat.reduceLeDiff, reduceCtorEq, Int.reduceNeg, Int.reduceEq, String.reduceEq, Int.reduceLT, Int.reduceLE, Int.reduceToNat, Int.reduceAdd, Int.reduceMul, Int.reduceSub]
    try rfl
  · exact ⟨Nat.zero_le _, Nat.le_refl _, Nat.le_refl _, by simp [elemsS], by simp [endsS]⟩
  rintro ⟨i, fr, out⟩ ⟨i1, i2, i3, i4, i5⟩
  simp only at i1 i2 i3 i4 i5
  simp (config := {maxSteps := 2000000}) only [T_specSplitR, Go.Proofs.Try.Lists.tb_specBehind, Go.Proofs.Try.Oct.tb_specTrimR, go_sem, reduceIte, Nat.reduceEqDiff, Nat.reduceAdd, Nat.reduceMul, Nat.reduceSub, Nat.reduceBEq, Nat.reduceLT, Nat.reduceLeDiff, reduceCtorEq, Int.reduceNeg, Int.reduceEq, String.reduceEq, Int.reduceLT, Int.reduceLE, Int.reduceToNat, Int.reduceAdd, Int.reduceMul, Int.reduceSub]
  (try simp (config := {maxSteps := 2000000}) only [gimp, impB, isT, go_sem, reduceIte, Nat.reduceEqDiff, Nat.reduceAdd, Nat.reduceMul, Nat.reduceSub, Nat.reduceBEq, Nat.reduceLT, Nat.reduceLeDiff, reduceCtorEq, Int.reduceNeg, Int.reduceEq, String.reduceEq, Int.reduceLT, Int.reduceLE, Int.reduceToNat, Int.reduceAdd, Int.reduceMul, Int.reduceSub])
  have hne : behindI s i < 0 → i < s.length → endsS s = false := fun h hlt => by
    have hc : closeAt scan0 (s.drop i) = none := by
      cases hc : closeAt scan0 (s.drop i) with
      | none => rfl
      | some n => unfold behindI at h; rw [hc] at h; simp only at h; omega
    rw [i5]; exact closeAt_none hc (fun e => by have := List.drop_eq_nil_iff.1 e; omega)
  have h44 : ∀ c : UInt8, c = 34 ∨ c = 40 → c ≠ 44 := by
    intro c h
    rcases h with rfl | rfl <;> decide
  (repeat' (first | refine And.intro ?_ ?_ | intro _))
  all_goals (try first | omega | assumption | contradiction)
  · rename_i h1 h2 h3
    rw [splitS, hne h3 (by omega)]; rfl
  · rename_i h1 h2 h3
    exact (hne h3 (by omega)).symm
  · rename_i h1 h2 h3
    obtain ⟨k, k1, k2, k3, k4⟩ := behindI_lt (s := s) (a := i) (n := (behindI s i).toNat) (by omega)
    obtain ⟨g1, g2⟩ := elemsGo_close ((s.take i).drop fr) (fun _ => by rw [drop_getD0]; exact h44 _ h2) k1
    refine ⟨(i + k, fr, out), ⟨⟨rfl, rfl, by simp only; omega⟩, rfl⟩, ⟨by simp only; omega, by simp only; omega, i3, ?_, ?_⟩, by simp only; omega⟩
    · simp only
      rw [i4, g1, List.drop_drop]
      congr 2
      have e : s.take (i + k) = s.take i ++ (s.drop i).take k := List.take_add
      rw [e, List.drop_append_of_le_length (by rw [List.length_take]; omega)]
    · simp only
      rw [i5]
      have e : s.drop i = (s.drop i).take k ++ s.drop (i + k) := by rw [← List.drop_drop, List.take_append_drop]
      conv => lhs; rw [e, Scan.run_append, g2]
  · rename_i h1 h2 h3 h4
    have e9 := drop_cons (s := s) (i := i) (by omega)
    have e8 : (s.take (i + 1)).drop (i + 1) = [] := List.drop_eq_nil_of_le (by rw [List.length_take]; omega)
    refine ⟨(i + 1, i + 1, out ++ [(s.take i).drop fr]), ⟨⟨by simp, by simp only; omega, by simp only; omega⟩, by simp⟩, ⟨by simp only; omega, Nat.le_refl _, by simp only [List.length_append, List.length_cons, List.length_nil]; omega, ?_, ?_⟩, by simp only; omega⟩
    · simp only
      rw [i4, e9, elemsGo_cons, if_pos ⟨h4, rfl⟩, List.append_assoc, e8]; rfl
    · simp only
      rw [i5, e9, h4, Scan.run_cons, see_top (by decide) (by decide)]
  · rename_i h1 h2 h3 h4
    have e9 := drop_cons (s := s) (i := i) (by omega)
    have hs := see_top h2 h3
    refine ⟨(i + 1, fr, out), ⟨⟨rfl, rfl, by simp only; omega⟩, rfl⟩, ⟨by simp only; omega, by simp only; omega, i3, ?_, ?_⟩, by simp only; omega⟩
    · simp only
      rw [i4, e9, elemsGo_cons, if_neg (fun h => h4 h.1), hs, take_succ_getD 0 (by omega), List.drop_append_of_le_length (by rw [List.length_take]; omega)]
    · simp only
      rw [i5, e9, Scan.run_cons, hs]
  · rename_i hge
    have e0 : i = s.length := by omega
    subst e0
    rw [List.take_length, List.drop_length] at i4
    rw [List.drop_length] at i5
    have ee : elemsS s = out ++ [s.drop fr] := i4
    have hend : endsS s = true := i5
    have hsp : splitS s = keepE (out ++ [s.drop fr]) := by rw [splitS, if_pos hend, ee]
    generalize hall : out ++ [s.drop fr] = all at *
    have hal : all.length = out.length + 1 := by rw [← hall]; simp
    have hmp : List.map AV.str out ++ [AV.str (s.drop fr)] = all.map AV.str := by rw [← hall]; simp
    rw [hmp, ← hal]
    refine VL_inv (X := Nat) (fun k => ⟨[(0, .str s), (4, .ref 176 0 all.length all.length), (7, .ref 848 0 (keepE (all.take k)).length (keepE (all.take k)).length), (8, .int .i64 k)], [(848, .cells 1 false (.str []) ((keepE (all.take k)).map .str)), (176, .cells 1 false (.str []) (all.map .str))]⟩) (fun k => k ≤ all.length) (fun k => all.length - k) 0 ?_ ?_ ?_
    · simp only [go_sem, go_sem, reduceIte, Nat.reduceEqDiff, Nat.reduceAdd, Nat.reduceMul, Nat.reduceSub, Nat.reduceBEq, Nat.reduceLT, Nat.reduceLeDiff, reduceCtorEq, Int.reduceNeg, Int.reduceEq, String.reduceEq, Int.reduceLT, Int.reduceLE, Int.reduceToNat, Int.reduceAdd, Int.reduceMul, Int.reduceSub]
      exact ⟨rfl, rfl⟩
    · exact Nat.zero_le _
    rintro k hk
    simp (config := {maxSteps := 2000000}) only [T_specSplitR, Go.Proofs.Try.Lists.tb_specBehind, Go.Proofs.Try.Oct.tb_specTrimR, go_sem, reduceIte, Nat.reduceEqDiff, Nat.reduceAdd, Nat.reduceMul, Nat.reduceSub, Nat.reduceBEq, Nat.reduceLT, Nat.reduceLeDiff, reduceCtorEq, Int.reduceNeg, Int.reduceEq, String.reduceEq, Int.reduceLT, Int.reduceLE, Int.reduceToNat, Int.reduceAdd, Int.reduceMul, Int.reduceSub]
    (try simp (config := {maxSteps := 2000000}) only [gimp, impB, isT, go_sem, reduceIte, Nat.reduceEqDiff, Nat.reduceAdd, Nat.reduceMul, Nat.reduceSub, Nat.reduceBEq, Nat.reduceLT, Nat.reduceLeDiff, reduceCtorEq, Int.reduceNeg, Int.reduceEq, String.reduceEq, Int.reduceLT, Int.reduceLE, Int.reduceToNat, Int.reduceAdd, Int.reduceMul, Int.reduceSub])
    have hbig : ∀ n, (all.getD n []).length ≤ s.length := fun n => getD_len (fun e he => elemsS_len (by rw [ee]; exact he))
    have hmx : (100000000 : Nat) ≤ maxLen := by decide
    have hb := hbig k
    have hkl := keepE_le (all.take k)
    have htl : (all.take k).length ≤ all.length := by rw [List.length_take]; omega
    have hstep : k < all.length → keepE (all.take (k + 1)) = keepE (all.take k) ++ keepE [all.getD k []] := fun h => by
      rw [take_succ_getD [] h, keepE_append]
    have hout : all.length ≤ fr + 1 := by omega
    rw [Nat.zero_add]
    (repeat' (first | refine And.intro ?_ ?_ | intro _))
    all_goals (try first | omega | assumption | contradiction)
    · rename_i h1 h2
      refine ⟨k + 1, ⟨⟨?_, by omega⟩, ?_⟩, by omega, by omega⟩ <;> rw [hstep (by omega), keepE_one, if_neg h2] <;> simp
    · rename_i h1 h2
      refine ⟨k + 1, ⟨⟨?_, by omega⟩, ?_⟩, by omega, by omega⟩ <;> rw [hstep (by omega), keepE_one, if_pos h2] <;> simp
    · have e0 : k = all.length := by omega
      subst e0
      rw [List.take_length, List.take_length, hsp]
    · exact hend.symm
def tb_specSplitR : List Blk → List AV → Option (List Blk × AV × Prop)
  | [], [.str s] => some ([], .tuple [enc_strs (splitS s), .bool (endsS s)], (s.length ≤ 100000000))
  | _, _ => none
theorem tb_specSplitR_ok : ∀ E args E' res p, tb_specSplitR E args = some (E', res, p) → p → SpecE Try.prog 36 E args E' res := by
  intro E args E' res p h hp
  unfold tb_specSplitR at h
  split at h
  · simp only [Option.some.injEq, Prod.mk.injEq] at h
    obtain ⟨rfl, rfl, rfl⟩ := h
    exact (specSplitR _ hp)
  · cases h

def T_specHasR : Tbl := fun g E args => (addT (addT nilT 36 Go.Proofs.Try.Lists.tb_specSplitR) 50 Go.Proofs.Try.Oct.tb_specLowerR) g E args
theorem T_specHasR_ok : TblOK Try.prog T_specHasR := (addT_ok (addT_ok nilT_ok (by decide +kernel) Go.Proofs.Try.Lists.tb_specSplitR_ok) (by decide +kernel) Go.Proofs.Try.Oct.tb_specLowerR_ok)
set_option maxRecDepth 100000 in
set_option maxHeartbeats 4000000 in
theorem specHasR (s w : List UInt8) (hs : s.length ≤ 1000000) (hw : w.length ≤ 1000000) : SpecE Try.prog 39 [] [.str s, .str w] [] (.bool (hasS s w)) := by
  refine specF0 (C := T_specHasR) (wr := false) (D := fun _ => []) (U := fun _ => none) (res := [.bool (hasS s w)]) Try.Ty.mixed T_specHasR_ok Try.func39 (nA := 2) (by decide +kernel) rfl (fun _ => rfl) ?_
  simp only [Try.f39, bodyOf, rlOf]
  rw [W_V]
  simp (config := {maxSteps := 2000000}) only [T_specHasR, Go.Proofs.Try.Lists.tb_specSplitR, Go.Proofs.Try.Oct.tb_specLowerR, go_sem, reduceIte, Nat.reduceEqDiff, Nat.reduceAdd, Nat.reduceMul, Nat.reduceSub, Nat.reduceBEq, Nat.reduceLT, Nat.reduceLeDiff, reduceCtorEq, Int.reduceNeg, Int.reduceEq, String.reduceEq, Int.reduceLT, Int.reduceLE, Int.reduceToNat, Int.reduceAdd, Int.reduceMul, Int.reduceSub]
  (try simp (config := {maxSteps := 2000000}) only [gimp, impB, isT, go_sem, reduceIte, Nat.reduceEqDiff, Nat.reduceAdd, Nat.reduceMul, Nat.reduceSub, Nat.reduceBEq, Nat.reduceLT, Nat.reduceLeDiff, reduceCtorEq, Int.reduceNeg, Int.reduceEq, String.reduceEq, Int.reduceLT, Int.reduceLE, Int.reduceToNat, Int.reduceAdd, Int.reduceMul, Int.reduceSub])
  refine ⟨by omega, ?_⟩
  refine VL_inv (X := Nat) (fun k => ⟨[(1, .str w), (5, enc_strs (splitS s)), (7, .int .i64 k)], []⟩) (fun k => k ≤ (splitS s).length ∧ ((splitS s).take k).any (fun e => foldS e w) = false) (fun k => (splitS s).length - k) 0 ?_ ?_ ?_
  · simp only [go_sem, go_sem, reduceIte, Nat.reduceEqDiff, Nat.reduceAdd, Nat.reduceMul, Nat.reduceSub, Nat.reduceBEq, Nat.reduceLT, Nat.reduceLeDiff, reduceCtorEq, Int.reduceNeg, Int.reduceEq, String.reduceEq, Int.reduceLT, Int.reduceLE, Int.reduceToNat, Int.reduceAdd, Int.reduceMul, Int.reduceSub]
    try rfl
  · exact ⟨Nat.zero_le _, by simp⟩
  rintro k ⟨hk, hn⟩
  simp (config := {maxSteps := 2000000}) only [T_specHasR, Go.Proofs.Try.Lists.tb_specSplitR, Go.Proofs.Try.Oct.tb_specLowerR, go_sem, reduceIte, Nat.reduceEqDiff, Nat.reduceAdd, Nat.reduceMul, Nat.reduceSub, Nat.reduceBEq, Nat.reduceLT, Nat.reduceLeDiff, reduceCtorEq, Int.reduceNeg, Int.reduceEq, String.reduceEq, Int.reduceLT, Int.reduceLE, Int.reduceToNat, Int.reduceAdd, Int.reduceMul, Int.reduceSub]
  (try simp (config := {maxSteps := 2000000}) only [gimp, impB, isT, go_sem, reduceIte, Nat.reduceEqDiff, Nat.reduceAdd, Nat.reduceMul, Nat.reduceSub, Nat.reduceBEq, Nat.reduceLT, Nat.reduceLeDiff, reduceCtorEq, Int.reduceNeg, Int.reduceEq, String.reduceEq, Int.reduceLT, Int.reduceLE, Int.reduceToNat, Int.reduceAdd, Int.reduceMul, Int.reduceSub])
  have hb : ((splitS s).getD k []).length ≤ s.length := getD_len (fun e he => (splitS_mem he).1)
  have hc := splitS_count s
  (repeat' (first | refine And.intro ?_ ?_ | intro _))
  all_goals (try first | omega | assumption | contradiction)
  · rename_i h1 h2
    exact (any_hit (p := fun e => foldS e w) (k := k) [] (by omega) (by simp only [foldS, h2, decide_true])).symm
  · rename_i h1 h2
    refine ⟨k + 1, by omega, ⟨by omega, ?_⟩, by omega⟩
    rw [any_take_succ [] (by omega) hn]
    simp only [foldS, h2, decide_false]
  · have e0 : k = (splitS s).length := by omega
    subst e0
    rw [List.take_length] at hn
    exact hn.symm
def tb_specHasR : List Blk → List AV → Option (List Blk × AV × Prop)
  | [], [.str s, .str w] => some ([], .bool (hasS s w), (s.length ≤ 1000000) ∧ (w.length ≤ 1000000))
  | _, _ => none
theorem tb_specHasR_ok : ∀ E args E' res p, tb_specHasR E args = some (E', res, p) → p → SpecE Try.prog 39 E args E' res := by
  intro E args E' res p h hp
  unfold tb_specHasR at h
  split at h
  · simp only [Option.some.injEq, Prod.mk.injEq] at h
    obtain ⟨rfl, rfl, rfl⟩ := h
    exact (specHasR _ _ hp.1 hp.2)
  · cases h

def T_specJoinR : Tbl := fun g E args => nilT g E args
theorem T_specJoinR_ok : TblOK Try.prog T_specJoinR := nilT_ok
set_option maxRecDepth 100000 in
set_option maxHeartbeats 4000000 in
theorem specJoinR (l : List (List UInt8)) (hn : l.length ≤ 1000) (hl : ∀ x ∈ l, x.length ≤ 1000000) : SpecE Try.prog 42 [] [enc_strs l] [] (.str (joinS l)) := by
  refine specF0 (C := T_specJoinR) (wr := false) (D := fun _ => []) (U := fun _ => none) (res := [.str (joinS l)]) Try.Ty.mixed T_specJoinR_ok Try.func42 (nA := 1) (by decide +kernel) rfl (fun _ => rfl) ?_
  simp only [Try.f42, bodyOf, rlOf]
  rw [W_V]
  simp (config := {maxSteps := 2000000}) only [T_specJoinR, go_sem, reduceIte, Nat.reduceEqDiff, Nat.reduceAdd, Nat.reduceMul, Nat.reduceSub, Nat.reduceBEq, Nat.reduceLT, Nat.reduceLeDiff, reduceCtorEq, Int.reduceNeg, Int.reduceEq, String.reduceEq, Int.reduceLT, Int.reduceLE, Int.reduceToNat, Int.reduceAdd, Int.reduceMul, Int.reduceSub]
  (try simp (config := {maxSteps := 2000000}) only [gimp, impB, isT, go_sem, reduceIte, Nat.reduceEqDiff, Nat.reduceAdd, Nat.reduceMul, Nat.reduceSub, Nat.reduceBEq, Nat.reduceLT, Nat.reduceLeDiff, reduceCtorEq, Int.reduceNeg, Int.reduceEq, String.reduceEq, Int.reduceLT, Int.reduceLE, Int.reduceToNat, Int.reduceAdd, Int.reduceMul, Int.reduceSub])
  refine VL_inv (X := Nat) (fun k => ⟨[(0, enc_strs l), (3, .str (joinS (l.take k))), (4, .int .i64 k)], []⟩) (fun k => k ≤ l.length) (fun k => l.length - k) 0 ?_ ?_ ?_
  · simp only [go_sem, go_sem, reduceIte, Nat.reduceEqDiff, Nat.reduceAdd, Nat.reduceMul, Nat.reduceSub, Nat.reduceBEq, Nat.reduceLT, Nat.reduceLeDiff, reduceCtorEq, Int.reduceNeg, Int.reduceEq, String.reduceEq, Int.reduceLT, Int.reduceLE, Int.reduceToNat, Int.reduceAdd, Int.reduceMul, Int.reduceSub]
    try rfl
  · exact Nat.zero_le _
  rintro k hk
  simp (config := {maxSteps := 2000000}) only [T_specJoinR, go_sem, reduceIte, Nat.reduceEqDiff, Nat.reduceAdd, Nat.reduceMul, Nat.reduceSub, Nat.reduceBEq, Nat.reduceLT, Nat.reduceLeDiff, reduceCtorEq, Int.reduceNeg, Int.reduceEq, String.reduceEq, Int.reduceLT, Int.reduceLE, Int.reduceToNat, Int.reduceAdd, Int.reduceMul, Int.reduceSub]
  (try simp (config := {maxSteps := 2000000}) only [gimp, impB, isT, go_sem, reduceIte, Nat.reduceEqDiff, Nat.reduceAdd, Nat.reduceMul, Nat.reduceSub, Nat.reduceBEq, Nat.reduceLT, Nat.reduceLeDiff, reduceCtorEq, Int.reduceNeg, Int.reduceEq, String.reduceEq, Int.reduceLT, Int.reduceLE, Int.reduceToNat, Int.reduceAdd, Int.reduceMul, Int.reduceSub])
  have hb : (l.getD k []).length ≤ 1000000 := getD_len hl
  have hj : (joinS (l.take k)).length ≤ (l.take k).length * (1000000 + 2) := joinS_len (fun e he => hl e (List.mem_of_mem_take he))
  have hlt : (l.take k).length = k := by rw [List.length_take]; omega
  have hk2 : (joinS (l.take k)).length ≤ 1000 * 1000002 := Nat.le_trans hj (by rw [hlt]; exact Nat.mul_le_mul (by omega) (Nat.le_refl _))
  have hjl : (joinS (l.take k) ++ [44, 32]).length = (joinS (l.take k)).length + 2 := by simp
  (repeat' (first | refine And.intro ?_ ?_ | intro _))
  all_goals (try first | omega | assumption | contradiction)
  · rename_i h1 h2
    refine ⟨k + 1, ⟨?_, by omega⟩, by omega, by omega⟩
    rw [take_succ_getD [] (by omega), joinS_snoc, if_neg (fun e => by rw [e] at hlt; simp at hlt; omega)]
  · rename_i h1 h2
    refine ⟨k + 1, ⟨?_, by omega⟩, by omega, by omega⟩
    have : k = 0 := by omega
    subst this
    rw [take_succ_getD [] (by omega), joinS_snoc, if_pos (by simp)]; rfl
  · rw [List.take_of_length_le (by omega)]
def tb_specJoinR : List Blk → List AV → Option (List Blk × AV × Prop)
  | [], [a0] => some ([], .str (joinS (dec_strs a0)), ((dec_strs a0).length ≤ 1000) ∧ (∀ x ∈ (dec_strs a0), x.length ≤ 1000000) ∧ argOK a0 (enc_strs (dec_strs a0)))
  | _, _ => none
theorem tb_specJoinR_ok : ∀ E args E' res p, tb_specJoinR E args = some (E', res, p) → p → SpecE Try.prog 42 E args E' res := by
  intro E args E' res p h hp
  unfold tb_specJoinR at h
  split at h
  · simp only [Option.some.injEq, Prod.mk.injEq] at h
    obtain ⟨rfl, rfl, rfl⟩ := h
    exact SpecE.args (specJoinR _ hp.1 hp.2.1) (.cons hp.2.2 .nil)
  · cases h
end Go.Proofs.Try.Lists
