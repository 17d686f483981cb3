/- cursor: quoted texts, the walks. No condition. -/
import Derived.Test.YtanpmebamgnhbaaCur
set_option linter.unusedVariables false
set_option linter.unusedSimpArgs false
namespace Go.Proofs.Try.Cur
open Go Go.Abs Go.Proofs Go.Mdl

def T_specQuoted : Tbl := fun g E args => (addT (addT (addT nilT 254 Go.Proofs.Try.Cur.tb_specLeft) 250 Go.Proofs.Try.Cur.tb_specTake) 261 Go.Proofs.Try.Oct.tb_specValue) g E args
theorem T_specQuoted_ok : TblOK Try.prog T_specQuoted := (addT_ok (addT_ok (addT_ok nilT_ok (by decide +kernel) Go.Proofs.Try.Cur.tb_specLeft_ok) (by decide +kernel) Go.Proofs.Try.Cur.tb_specTake_ok) (by decide +kernel) Go.Proofs.Try.Oct.tb_specValue_ok)
set_option maxRecDepth 100000 in
set_option maxHeartbeats 4000000 in
theorem specQuoted (s : List UInt8) (a : Int) (h : 0 ≤ a ∧ a ≤ s.length ∧ s.length ≤ 1000000) : SpecE Try.prog 255 [.cells 2 false (.agg [.str [], .int .i64 0]) [.agg [.str s, .int .i64 a]]] [.ptr 0 0 0 1] [.cells 2 false (.agg [.str [], .int .i64 0]) [.agg [.str s, .int .i64 (a + qLen (s.drop a.toNat))]]] (.tuple [.str (qText (s.drop a.toNat)), .bool (qHas (s.drop a.toNat))]) := by
  refine specFE (C := T_specQuoted) (wr := false) (D := fun _ => []) (U := fun _ => none) (E := [.cells 2 false (.agg [.str [], .int .i64 0]) [.agg [.str s, .int .i64 a]]]) (E' := [.cells 2 false (.agg [.str [], .int .i64 0]) [.agg [.str s, .int .i64 (a + qLen (s.drop a.toNat))]]]) (res := [.str (qText (s.drop a.toNat)), .bool (qHas (s.drop a.toNat))]) [] Try.Ty.mixed T_specQuoted_ok Try.func255 (nE := 1) (nA := 1) (by decide +kernel) rfl rfl ?_
  simp only [Try.f255, bodyOf, rlOf]
  rw [W_V]
  simp (config := {maxSteps := 2000000}) only [T_specQuoted, Go.Proofs.Try.Cur.tb_specLeft, Go.Proofs.Try.Cur.tb_specTake, Go.Proofs.Try.Oct.tb_specValue, go_sem, reduceIte, Nat.reduceEqDiff, Nat.reduceAdd, Nat.reduceMul, Nat.reduceSub, Nat.reduceBEq, Nat.reduceLT, Nat.reduceLeDiff, reduceCtorEq, Int.reduceNeg, Int.reduceEq, String.reduceEq, Int.reduceLT, Int.reduceLE, Int.reduceToNat, Int.reduceAdd, Int.reduceMul, Int.reduceSub]
  (try simp (config := {maxSteps := 2000000}) only [gimp, impB, isT, go_sem, reduceIte, Nat.reduceEqDiff, Nat.reduceAdd, Nat.reduceMul, Nat.reduceSub, Nat.reduceBEq, Nat.reduceLT, Nat.reduceLeDiff, reduceCtorEq, Int.reduceNeg, Int.reduceEq, String.reduceEq, Int.reduceLT, Int.reduceLE, Int.reduceToNat, Int.reduceAdd, Int.reduceMul, Int.reduceSub])
  have hl : (s.drop a.toNat).length = s.length - a.toNat := by simp
  generalize s.drop a.toNat = t at *
  refine ⟨by omega, fun hn => List.length_pos_iff.2 hn |> fun h => by omega, fun hno => ?_, fun hne hq => ?_⟩
  · obtain ⟨e1, e2, e3⟩ := q_none (qTop_no hno)
    simp [e1, e2, e3]
  have hne' : 1 ≤ t.length := List.length_pos_iff.2 hne
  refine VL_inv (X := List UInt8 × Nat) (fun x => ⟨[(0, .ptr 0 0 0 1), (4, .str t), (5, .ref 992 0 x.1.length x.1.length), (6, .int .i64 x.2)], [(0, .cells 2 false (.agg [.str [], .int .i64 0]) [.agg [.str s, .int .i64 a]]), (992, .cells 1 false (.int .u8 0) (x.1.map byteAV))]⟩)
    (fun x => x.2 ≤ t.length ∧ x.1.length ≤ x.2 ∧ qGo (t.drop x.2) x.1 x.2 = qTop t) (fun x => t.length - x.2) ([], 1) ?_ ?_ ?_
  · simp only [go_sem, go_sem, reduceIte, Nat.reduceEqDiff, Nat.reduceAdd, Nat.reduceMul, Nat.reduceSub, Nat.reduceBEq, Nat.reduceLT, Nat.reduceLeDiff, reduceCtorEq, Int.reduceNeg, Int.reduceEq, String.reduceEq, Int.reduceLT, Int.reduceLE, Int.reduceToNat, Int.reduceAdd, Int.reduceMul, Int.reduceSub]
  · exact ⟨hne', Nat.zero_le _, (qTop_yes hne hq).symm⟩
  rintro ⟨out, i⟩ ⟨h1, h2, h3⟩
  simp only at h1 h2 h3
  simp (config := {maxSteps := 2000000}) only [T_specQuoted, Go.Proofs.Try.Cur.tb_specLeft, Go.Proofs.Try.Cur.tb_specTake, Go.Proofs.Try.Oct.tb_specValue, go_sem, reduceIte, Nat.reduceEqDiff, Nat.reduceAdd, Nat.reduceMul, Nat.reduceSub, Nat.reduceBEq, Nat.reduceLT, Nat.reduceLeDiff, reduceCtorEq, Int.reduceNeg, Int.reduceEq, String.reduceEq, Int.reduceLT, Int.reduceLE, Int.reduceToNat, Int.reduceAdd, Int.reduceMul, Int.reduceSub]
  (try simp (config := {maxSteps := 2000000}) only [gimp, impB, isT, go_sem, reduceIte, Nat.reduceEqDiff, Nat.reduceAdd, Nat.reduceMul, Nat.reduceSub, Nat.reduceBEq, Nat.reduceLT, Nat.reduceLeDiff, reduceCtorEq, Int.reduceNeg, Int.reduceEq, String.reduceEq, Int.reduceLT, Int.reduceLE, Int.reduceToNat, Int.reduceAdd, Int.reduceMul, Int.reduceSub])
  have no : qTop t = none → ([] = qText t ∧ false = qHas t) ∧ [AV.agg [AV.str s, AV.int IntKind.i64 a]] = [AV.agg [AV.str s, AV.int IntKind.i64 (a + (qLen t : Int))]] ∧
      some (Blk.cells 2 false (AV.agg [AV.str [], AV.int IntKind.i64 0]) [AV.agg [AV.str s, AV.int IntKind.i64 (a + (qLen t : Int))]]) = some (Blk.cells 2 false (AV.agg [AV.str [], AV.int IntKind.i64 0]) [AV.agg [AV.str s, AV.int IntKind.i64 a]]) := by
    intro hn
    obtain ⟨e1, e2, e3⟩ := q_none hn
    simp [e1, e2, e3]
  have take_all : List.take out.length (List.map byteAV out) = List.map byteAV out := List.take_of_length_le (by simp)
  refine ⟨fun hlt => ⟨by omega, fun hq1 => ?_, fun hnq => ⟨⟨fun _ => by omega, fun _ => by omega⟩, fun hs1 he => ?_, fun hne1 => ⟨fun hs1 => ?_, fun hns => ?_⟩⟩⟩, fun hge => no (by rw [← h3]; exact qGo_end (by omega))⟩
  · rw [qGo_quote (by omega) hq1] at h3
    obtain ⟨e1, e2, e3⟩ := q_some h3.symm
    rw [List.take_length, e1, e2, e3]
    refine ⟨by omega, by omega, ⟨rfl, rfl⟩, ?_⟩
    simp
  · exact no (by rw [← h3]; exact qGo_slash_end (by omega) hs1)
  · have hlt2 : i + 1 < t.length := by
      rw [decide_eq_true hs1, Bool.true_and, decide_eq_false_iff_not] at hne1; omega
    rw [qGo_slash hlt2 hs1] at h3
    rw [valueS_one]
    refine ⟨by omega, by omega, fun hv => no (by rw [← h3, hv]; rfl), fun hv => ⟨by omega, by omega, (out ++ [t.getD (i + 1) 0], i + 2), ⟨⟨by simp, by simp only; omega⟩, by simp [byteAV]⟩, ⟨by simp only; omega, by simp; omega, ?_⟩, by simp only; omega⟩⟩
    rw [← h3, if_pos hv]
  · rw [qGo_plain (by omega) hnq hns] at h3
    rw [valueS_one]
    refine ⟨fun hv => no (by rw [← h3, hv]; rfl), fun hv => ⟨by omega, by omega, (out ++ [t.getD i 0], i + 1), ⟨⟨by simp, by simp only; omega⟩, by simp [byteAV]⟩, ⟨by simp only; omega, by simp; omega, ?_⟩, by simp only; omega⟩⟩
    rw [← h3, if_pos hv]
def tb_specQuoted : List Blk → List AV → Option (List Blk × AV × Prop)
  | [.cells 2 false d [.agg [.str s, .int .i64 a]]], [.ptr 0 0 0 1] => some ([.cells 2 false (.agg [.str [], .int .i64 0]) [.agg [.str s, .int .i64 (a + qLen (s.drop a.toNat))]]], .tuple [.str (qText (s.drop a.toNat)), .bool (qHas (s.drop a.toNat))], (d = .agg [.str [], .int .i64 0]) ∧ (0 ≤ a ∧ a ≤ s.length ∧ s.length ≤ 1000000))
  | _, _ => none
theorem tb_specQuoted_ok : ∀ E args E' res p, tb_specQuoted E args = some (E', res, p) → p → SpecE Try.prog 255 E args E' res := by
  intro E args E' res p h hp
  unfold tb_specQuoted at h
  split at h
  · simp only [Option.some.injEq, Prod.mk.injEq] at h
    obtain ⟨rfl, rfl, rfl⟩ := h
    obtain ⟨rfl, hp⟩ := hp
    exact (specQuoted _ _ hp)
  · cases h

def T_specQuotedN : Tbl := fun g E args => (addT nilT 254 Go.Proofs.Try.Cur.tb_specLeftN) g E args
theorem T_specQuotedN_ok : TblOK Try.prog T_specQuotedN := (addT_ok nilT_ok (by decide +kernel) Go.Proofs.Try.Cur.tb_specLeftN_ok)
set_option maxRecDepth 100000 in
set_option maxHeartbeats 4000000 in
theorem specQuotedN : SpecE Try.prog 255 [] [.nilp] [] (.tuple [.str [], .bool false]) := by
  refine specF0 (C := T_specQuotedN) (wr := false) (D := fun _ => []) (U := fun _ => none) (res := [.str [], .bool false]) Try.Ty.mixed T_specQuotedN_ok Try.func255 (nA := 1) (by decide +kernel) rfl (fun _ => rfl) ?_
  simp only [Try.f255, bodyOf, rlOf]
  rw [W_V]
  simp (config := {maxSteps := 2000000}) only [T_specQuotedN, Go.Proofs.Try.Cur.tb_specLeftN, go_sem, reduceIte, Nat.reduceEqDiff, Nat.reduceAdd, Nat.reduceMul, Nat.reduceSub, Nat.reduceBEq, Nat.reduceLT, Nat.reduceLeDiff, reduceCtorEq, Int.reduceNeg, Int.reduceEq, String.reduceEq, Int.reduceLT, Int.reduceLE, Int.reduceToNat, Int.reduceAdd, Int.reduceMul, Int.reduceSub]
  (try simp (config := {maxSteps := 2000000}) only [gimp, impB, isT, go_sem, reduceIte, Nat.reduceEqDiff, Nat.reduceAdd, Nat.reduceMul, Nat.reduceSub, Nat.reduceBEq, Nat.reduceLT, Nat.reduceLeDiff, reduceCtorEq, Int.reduceNeg, Int.reduceEq, String.reduceEq, Int.reduceLT, Int.reduceLE, Int.reduceToNat, Int.reduceAdd, Int.reduceMul, Int.reduceSub])
def tb_specQuotedN : List Blk → List AV → Option (List Blk × AV × Prop)
  | [], [.nilp] => some ([], .tuple [.str [], .bool false], True)
  | _, _ => none
theorem tb_specQuotedN_ok : ∀ E args E' res p, tb_specQuotedN E args = some (E', res, p) → p → SpecE Try.prog 255 E args E' res := by
  intro E args E' res p h hp
  unfold tb_specQuotedN at h
  split at h
  · simp only [Option.some.injEq, Prod.mk.injEq] at h
    obtain ⟨rfl, rfl, rfl⟩ := h
    exact specQuotedN
  · cases h

def T_specSize : Tbl := fun g E args => nilT g E args
theorem T_specSize_ok : TblOK Try.prog T_specSize := nilT_ok
set_option maxRecDepth 100000 in
set_option maxHeartbeats 4000000 in
theorem specSize (s : List UInt8) (h : s.length ≤ 1000000) : SpecE Try.prog 262 [] [.str s] [] (.int .i64 (sizeS s)) := by
  refine specF0 (C := T_specSize) (wr := false) (D := fun _ => []) (U := fun _ => none) (res := [.int .i64 (sizeS s)]) Try.Ty.mixed T_specSize_ok Try.func262 (nA := 1) (by decide +kernel) rfl (fun _ => rfl) ?_
  simp only [Try.f262, bodyOf, rlOf]
  rw [W_V]
  simp (config := {maxSteps := 2000000}) only [T_specSize, go_sem, reduceIte, Nat.reduceEqDiff, Nat.reduceAdd, Nat.reduceMul, Nat.reduceSub, Nat.reduceBEq, Nat.reduceLT, Nat.reduceLeDiff, reduceCtorEq, Int.reduceNeg, Int.reduceEq, String.reduceEq, Int.reduceLT, Int.reduceLE, Int.reduceToNat, Int.reduceAdd, Int.reduceMul, Int.reduceSub]
  (try simp (config := {maxSteps := 2000000}) only [gimp, impB, isT, go_sem, reduceIte, Nat.reduceEqDiff, Nat.reduceAdd, Nat.reduceMul, Nat.reduceSub, Nat.reduceBEq, Nat.reduceLT, Nat.reduceLeDiff, reduceCtorEq, Int.reduceNeg, Int.reduceEq, String.reduceEq, Int.reduceLT, Int.reduceLE, Int.reduceToNat, Int.reduceAdd, Int.reduceMul, Int.reduceSub])
  by_cases hs : s = []
  · subst hs
    refine VL_N 1 ?_
    rw [VN_succ]
    simp (config := {maxSteps := 2000000}) only [T_specSize, go_sem, reduceIte, Nat.reduceEqDiff, Nat.reduceAdd, Nat.reduceMul, Nat.reduceSub, Nat.reduceBEq, Nat.reduceLT, Nat.reduceLeDiff, reduceCtorEq, Int.reduceNeg, Int.reduceEq, String.reduceEq, Int.reduceLT, Int.reduceLE, Int.reduceToNat, Int.reduceAdd, Int.reduceMul, Int.reduceSub]
    (try simp (config := {maxSteps := 2000000}) only [gimp, impB, isT, go_sem, reduceIte, Nat.reduceEqDiff, Nat.reduceAdd, Nat.reduceMul, Nat.reduceSub, Nat.reduceBEq, Nat.reduceLT, Nat.reduceLeDiff, reduceCtorEq, Int.reduceNeg, Int.reduceEq, String.reduceEq, Int.reduceLT, Int.reduceLE, Int.reduceToNat, Int.reduceAdd, Int.reduceMul, Int.reduceSub])
    rfl
  have hp : 0 < s.length := List.length_pos_iff.2 hs
  obtain ⟨r1, r2, r3⟩ := rune_pos hp
  refine VL_N 2 ?_
  rw [VN_succ]
  simp (config := {maxSteps := 2000000}) only [T_specSize, go_sem, reduceIte, Nat.reduceEqDiff, Nat.reduceAdd, Nat.reduceMul, Nat.reduceSub, Nat.reduceBEq, Nat.reduceLT, Nat.reduceLeDiff, reduceCtorEq, Int.reduceNeg, Int.reduceEq, String.reduceEq, Int.reduceLT, Int.reduceLE, Int.reduceToNat, Int.reduceAdd, Int.reduceMul, Int.reduceSub]
  (try simp (config := {maxSteps := 2000000}) only [gimp, impB, isT, go_sem, reduceIte, Nat.reduceEqDiff, Nat.reduceAdd, Nat.reduceMul, Nat.reduceSub, Nat.reduceBEq, Nat.reduceLT, Nat.reduceLeDiff, reduceCtorEq, Int.reduceNeg, Int.reduceEq, String.reduceEq, Int.reduceLT, Int.reduceLE, Int.reduceToNat, Int.reduceAdd, Int.reduceMul, Int.reduceSub])
  refine ⟨fun _ => ⟨hp, ?_⟩, fun hn => absurd hp hn⟩
  rw [if_pos hp, Nat.zero_add, VN_succ]
  simp (config := {maxSteps := 2000000}) only [T_specSize, go_sem, reduceIte, Nat.reduceEqDiff, Nat.reduceAdd, Nat.reduceMul, Nat.reduceSub, Nat.reduceBEq, Nat.reduceLT, Nat.reduceLeDiff, reduceCtorEq, Int.reduceNeg, Int.reduceEq, String.reduceEq, Int.reduceLT, Int.reduceLE, Int.reduceToNat, Int.reduceAdd, Int.reduceMul, Int.reduceSub]
  (try simp (config := {maxSteps := 2000000}) only [gimp, impB, isT, go_sem, reduceIte, Nat.reduceEqDiff, Nat.reduceAdd, Nat.reduceMul, Nat.reduceSub, Nat.reduceBEq, Nat.reduceLT, Nat.reduceLeDiff, reduceCtorEq, Int.reduceNeg, Int.reduceEq, String.reduceEq, Int.reduceLT, Int.reduceLE, Int.reduceToNat, Int.reduceAdd, Int.reduceMul, Int.reduceSub])
  have e : sizeS s = (runeAt s 0).2 := by unfold sizeS; rw [if_neg hs]
  rw [e]
  exact ⟨fun h => ⟨h, fun _ => rfl, fun h => by omega⟩, fun h => by omega⟩
def tb_specSize : List Blk → List AV → Option (List Blk × AV × Prop)
  | [], [.str s] => some ([], .int .i64 (sizeS s), (s.length ≤ 1000000))
  | _, _ => none
theorem tb_specSize_ok : ∀ E args E' res p, tb_specSize E args = some (E', res, p) → p → SpecE Try.prog 262 E args E' res := by
  intro E args E' res p h hp
  unfold tb_specSize at h
  split at h
  · simp only [Option.some.injEq, Prod.mk.injEq] at h
    obtain ⟨rfl, rfl, rfl⟩ := h
    exact (specSize _ hp)
  · cases h

def T_specQuotedR : Tbl := fun g E args => (addT nilT 263 Go.Proofs.Try.Oct.tb_specValueR) g E args
theorem T_specQuotedR_ok : TblOK Try.prog T_specQuotedR := (addT_ok nilT_ok (by decide +kernel) Go.Proofs.Try.Oct.tb_specValueR_ok)
set_option maxRecDepth 100000 in
set_option maxHeartbeats 4000000 in
theorem specQuotedR (s : List UInt8) (h : s.length ≤ 1000000) : SpecE Try.prog 258 [] [.str s] [] (.tuple [.str (qText s), .int .i64 (qLen s)]) := by
  refine specF0 (C := T_specQuotedR) (wr := false) (D := fun _ => []) (U := fun _ => none) (res := [.str (qText s), .int .i64 (qLen s)]) Try.Ty.mixed T_specQuotedR_ok Try.func258 (nA := 1) (by decide +kernel) rfl (fun _ => rfl) ?_
  simp only [Try.f258, bodyOf, rlOf]
  rw [W_V]
  simp (config := {maxSteps := 2000000}) only [T_specQuotedR, Go.Proofs.Try.Oct.tb_specValueR, go_sem, reduceIte, Nat.reduceEqDiff, Nat.reduceAdd, Nat.reduceMul, Nat.reduceSub, Nat.reduceBEq, Nat.reduceLT, Nat.reduceLeDiff, reduceCtorEq, Int.reduceNeg, Int.reduceEq, String.reduceEq, Int.reduceLT, Int.reduceLE, Int.reduceToNat, Int.reduceAdd, Int.reduceMul, Int.reduceSub]
  (try simp (config := {maxSteps := 2000000}) only [gimp, impB, isT, go_sem, reduceIte, Nat.reduceEqDiff, Nat.reduceAdd, Nat.reduceMul, Nat.reduceSub, Nat.reduceBEq, Nat.reduceLT, Nat.reduceLeDiff, reduceCtorEq, Int.reduceNeg, Int.reduceEq, String.reduceEq, Int.reduceLT, Int.reduceLE, Int.reduceToNat, Int.reduceAdd, Int.reduceMul, Int.reduceSub])
  refine ⟨fun hn => by omega, fun hno => ?_, fun hne hq => ?_⟩
  · have : s = [] ∨ ¬ s.getD 0 0 = 34 := by
      rcases hno with h | h
      · exact .inl (List.length_eq_zero_iff.1 (by omega))
      · exact .inr h
    obtain ⟨e1, e2, e3⟩ := q_none (qTop_no this)
    simp [e1, e3]
  have hne' : ¬ s = [] := by rintro rfl; exact hne rfl
  refine VL_inv (X := List UInt8 × Nat) (fun x => ⟨[(0, .str s), (4, .str x.1), (5, .int .i64 x.2)], []⟩)
    (fun x => x.2 ≤ s.length ∧ x.1.length ≤ x.2 ∧ qGo (s.drop x.2) x.1 x.2 = qTop s) (fun x => s.length - x.2) ([], 1) ?_ ?_ ?_
  · simp only [go_sem, go_sem, reduceIte, Nat.reduceEqDiff, Nat.reduceAdd, Nat.reduceMul, Nat.reduceSub, Nat.reduceBEq, Nat.reduceLT, Nat.reduceLeDiff, reduceCtorEq, Int.reduceNeg, Int.reduceEq, String.reduceEq, Int.reduceLT, Int.reduceLE, Int.reduceToNat, Int.reduceAdd, Int.reduceMul, Int.reduceSub]
  · exact ⟨by simp only; omega, Nat.zero_le _, (qTop_yes hne' hq).symm⟩
  rintro ⟨out, i⟩ ⟨h1, h2, h3⟩
  simp only at h1 h2 h3
  simp (config := {maxSteps := 2000000}) only [T_specQuotedR, Go.Proofs.Try.Oct.tb_specValueR, go_sem, reduceIte, Nat.reduceEqDiff, Nat.reduceAdd, Nat.reduceMul, Nat.reduceSub, Nat.reduceBEq, Nat.reduceLT, Nat.reduceLeDiff, reduceCtorEq, Int.reduceNeg, Int.reduceEq, String.reduceEq, Int.reduceLT, Int.reduceLE, Int.reduceToNat, Int.reduceAdd, Int.reduceMul, Int.reduceSub]
  (try simp (config := {maxSteps := 2000000}) only [gimp, impB, isT, go_sem, reduceIte, Nat.reduceEqDiff, Nat.reduceAdd, Nat.reduceMul, Nat.reduceSub, Nat.reduceBEq, Nat.reduceLT, Nat.reduceLeDiff, reduceCtorEq, Int.reduceNeg, Int.reduceEq, String.reduceEq, Int.reduceLT, Int.reduceLE, Int.reduceToNat, Int.reduceAdd, Int.reduceMul, Int.reduceSub])
  have no : qTop s = none → [] = qText s ∧ (0 : Int) = (qLen s : Int) := by
    intro hn
    obtain ⟨e1, e2, e3⟩ := q_none hn
    simp [e1, e3]
  refine ⟨fun hlt => ⟨by omega, fun hq1 => ?_, fun hnq => ⟨by omega, fun hs1 => ?_, fun hns => ?_⟩⟩, fun hge => no (by rw [← h3]; exact qGo_end (by omega))⟩
  · rw [qGo_quote (by omega) hq1] at h3
    obtain ⟨e1, e2, e3⟩ := q_some h3.symm
    rw [e1, e3]
    exact ⟨by omega, rfl, by omega⟩
  · by_cases hlt2 : i + 1 < s.length
    · rw [qGo_slash hlt2 hs1] at h3
      rw [one_of2 hlt2, valueS_one]
      refine ⟨by omega, ⟨fun _ => by omega, fun _ => by omega⟩, ⟨fun _ => by omega, fun _ => by omega, fun _ => by omega⟩, fun _ => by simp, fun hno => ?_, fun _ hv => ⟨by omega, by omega, by simp; omega, by omega, (out ++ [s.getD (i + 1) 0], i + 2), ⟨rfl, by simp only; omega⟩, ⟨by simp only; omega, by simp; omega, ?_⟩, by simp only; omega⟩⟩
      · rcases hno with hno | hno
        · omega
        · exact no (by rw [← h3, hno]; rfl)
      · rw [← h3, if_pos hv]
    · refine ⟨by omega, ⟨fun _ => by omega, fun _ => by omega⟩, ⟨fun _ => by omega, fun _ => by omega, fun _ => by omega⟩, fun _ => by omega, fun _ => ?_, fun h => by omega⟩
      exact no (by rw [← h3]; exact qGo_slash_end (by omega) hs1)
  · have hlt' : i < s.length := by omega
    rw [qGo_plain hlt' hnq hns] at h3
    rw [one_of hlt', valueS_one]
    refine ⟨⟨fun _ => by omega, fun _ => by omega⟩, ⟨fun _ => by omega, fun _ => by omega, fun _ => by omega⟩, fun _ => by simp, fun hno => ?_, fun _ hv => ⟨by omega, by omega, by simp; omega, by omega, (out ++ [s.getD i 0], i + 1), ⟨rfl, by simp only; omega⟩, ⟨by simp only; omega, by simp; omega, ?_⟩, by simp only; omega⟩⟩
    · rcases hno with hno | hno
      · omega
      · exact no (by rw [← h3, hno]; rfl)
    · rw [← h3, if_pos hv]
def tb_specQuotedR : List Blk → List AV → Option (List Blk × AV × Prop)
  | [], [.str s] => some ([], .tuple [.str (qText s), .int .i64 (qLen s)], (s.length ≤ 1000000))
  | _, _ => none
theorem tb_specQuotedR_ok : ∀ E args E' res p, tb_specQuotedR E args = some (E', res, p) → p → SpecE Try.prog 258 E args E' res := by
  intro E args E' res p h hp
  unfold tb_specQuotedR at h
  split at h
  · simp only [Option.some.injEq, Prod.mk.injEq] at h
    obtain ⟨rfl, rfl, rfl⟩ := h
    exact (specQuotedR _ hp)
  · cases h

def T_specSkipR : Tbl := fun g E args => nilT g E args
theorem T_specSkipR_ok : TblOK Try.prog T_specSkipR := nilT_ok
set_option maxRecDepth 100000 in
set_option maxHeartbeats 4000000 in
theorem specSkipR (s : List UInt8) (h : s.length ≤ 1000000) : SpecE Try.prog 257 [] [.str s] [] (.int .i64 (spanL blankB s)) := by
  refine specF0 (C := T_specSkipR) (wr := false) (D := fun _ => []) (U := fun _ => none) (res := [.int .i64 (spanL blankB s)]) Try.Ty.mixed T_specSkipR_ok Try.func257 (nA := 1) (by decide +kernel) rfl (fun _ => rfl) ?_
  simp only [Try.f257, bodyOf, rlOf]
  rw [W_V]
  simp (config := {maxSteps := 2000000}) only [T_specSkipR, go_sem, reduceIte, Nat.reduceEqDiff, Nat.reduceAdd, Nat.reduceMul, Nat.reduceSub, Nat.reduceBEq, Nat.reduceLT, Nat.reduceLeDiff, reduceCtorEq, Int.reduceNeg, Int.reduceEq, String.reduceEq, Int.reduceLT, Int.reduceLE, Int.reduceToNat, Int.reduceAdd, Int.reduceMul, Int.reduceSub]
  (try simp (config := {maxSteps := 2000000}) only [gimp, impB, isT, go_sem, reduceIte, Nat.reduceEqDiff, Nat.reduceAdd, Nat.reduceMul, Nat.reduceSub, Nat.reduceBEq, Nat.reduceLT, Nat.reduceLeDiff, reduceCtorEq, Int.reduceNeg, Int.reduceEq, String.reduceEq, Int.reduceLT, Int.reduceLE, Int.reduceToNat, Int.reduceAdd, Int.reduceMul, Int.reduceSub])
  refine VL_inv (X := Nat) (fun x => ⟨[(0, .str s), (3, .int .i64 x)], []⟩) (fun x => x ≤ s.length ∧ (s.take x).all blankB = true) (fun x => s.length - x) 0 ?_ ?_ ?_
  · simp only [go_sem, go_sem, reduceIte, Nat.reduceEqDiff, Nat.reduceAdd, Nat.reduceMul, Nat.reduceSub, Nat.reduceBEq, Nat.reduceLT, Nat.reduceLeDiff, reduceCtorEq, Int.reduceNeg, Int.reduceEq, String.reduceEq, Int.reduceLT, Int.reduceLE, Int.reduceToNat, Int.reduceAdd, Int.reduceMul, Int.reduceSub]
  · exact ⟨Nat.zero_le _, by simp⟩
  rintro x ⟨hx, hn⟩
  simp (config := {maxSteps := 2000000}) only [T_specSkipR, go_sem, reduceIte, Nat.reduceEqDiff, Nat.reduceAdd, Nat.reduceMul, Nat.reduceSub, Nat.reduceBEq, Nat.reduceLT, Nat.reduceLeDiff, reduceCtorEq, Int.reduceNeg, Int.reduceEq, String.reduceEq, Int.reduceLT, Int.reduceLE, Int.reduceToNat, Int.reduceAdd, Int.reduceMul, Int.reduceSub]
  (try simp (config := {maxSteps := 2000000}) only [gimp, impB, isT, go_sem, reduceIte, Nat.reduceEqDiff, Nat.reduceAdd, Nat.reduceMul, Nat.reduceSub, Nat.reduceBEq, Nat.reduceLT, Nat.reduceLeDiff, reduceCtorEq, Int.reduceNeg, Int.reduceEq, String.reduceEq, Int.reduceLT, Int.reduceLE, Int.reduceToNat, Int.reduceAdd, Int.reduceMul, Int.reduceSub])
  have hb : blankB (s.getD x 0) = (decide (s.getD x 0 = 32) || decide (s.getD x 0 = 9)) := rfl
  refine ⟨fun h => by omega, ⟨fun _ _ => by omega, fun _ _ => by omega⟩, fun hlt hp => ⟨by omega, x + 1, by omega, ⟨by omega, (all_step (by omega) hn).1 (by rw [hb]; simpa using hp)⟩, by omega⟩, fun hf => ?_⟩
  rw [← span_exit hx hn (fun hlt => ?_)]
  rw [decide_eq_true (by omega : (x : Int) < s.length), Bool.true_and] at hf
  rw [hb, hf]
def tb_specSkipR : List Blk → List AV → Option (List Blk × AV × Prop)
  | [], [.str s] => some ([], .int .i64 (spanL blankB s), (s.length ≤ 1000000))
  | _, _ => none
theorem tb_specSkipR_ok : ∀ E args E' res p, tb_specSkipR E args = some (E', res, p) → p → SpecE Try.prog 257 E args E' res := by
  intro E args E' res p h hp
  unfold tb_specSkipR at h
  split at h
  · simp only [Option.some.injEq, Prod.mk.injEq] at h
    obtain ⟨rfl, rfl, rfl⟩ := h
    exact (specSkipR _ hp)
  · cases h

def T_specTokenR : Tbl := fun g E args => (addT nilT 256 Go.Proofs.Try.Oct.tb_specTcharR) g E args
theorem T_specTokenR_ok : TblOK Try.prog T_specTokenR := (addT_ok nilT_ok (by decide +kernel) Go.Proofs.Try.Oct.tb_specTcharR_ok)
set_option maxRecDepth 100000 in
set_option maxHeartbeats 4000000 in
theorem specTokenR (s : List UInt8) (h : s.length ≤ 1000000) : SpecE Try.prog 162 [] [.str s] [] (.int .i64 (spanL tcharB s)) := by
  refine specF0 (C := T_specTokenR) (wr := false) (D := fun _ => []) (U := fun _ => none) (res := [.int .i64 (spanL tcharB s)]) Try.Ty.mixed T_specTokenR_ok Try.func162 (nA := 1) (by decide +kernel) rfl (fun _ => rfl) ?_
  simp only [Try.f162, bodyOf, rlOf]
  rw [W_V]
  simp (config := {maxSteps := 2000000}) only [T_specTokenR, Go.Proofs.Try.Oct.tb_specTcharR, go_sem, reduceIte, Nat.reduceEqDiff, Nat.reduceAdd, Nat.reduceMul, Nat.reduceSub, Nat.reduceBEq, Nat.reduceLT, Nat.reduceLeDiff, reduceCtorEq, Int.reduceNeg, Int.reduceEq, String.reduceEq, Int.reduceLT, Int.reduceLE, Int.reduceToNat, Int.reduceAdd, Int.reduceMul, Int.reduceSub]
  (try simp (config := {maxSteps := 2000000}) only [gimp, impB, isT, go_sem, reduceIte, Nat.reduceEqDiff, Nat.reduceAdd, Nat.reduceMul, Nat.reduceSub, Nat.reduceBEq, Nat.reduceLT, Nat.reduceLeDiff, reduceCtorEq, Int.reduceNeg, Int.reduceEq, String.reduceEq, Int.reduceLT, Int.reduceLE, Int.reduceToNat, Int.reduceAdd, Int.reduceMul, Int.reduceSub])
  refine VL_inv (X := Nat) (fun x => ⟨[(0, .str s), (3, .int .i64 x)], []⟩) (fun x => x ≤ s.length ∧ (s.take x).all tcharB = true) (fun x => s.length - x) 0 ?_ ?_ ?_
  · simp only [go_sem, go_sem, reduceIte, Nat.reduceEqDiff, Nat.reduceAdd, Nat.reduceMul, Nat.reduceSub, Nat.reduceBEq, Nat.reduceLT, Nat.reduceLeDiff, reduceCtorEq, Int.reduceNeg, Int.reduceEq, String.reduceEq, Int.reduceLT, Int.reduceLE, Int.reduceToNat, Int.reduceAdd, Int.reduceMul, Int.reduceSub]
  · exact ⟨Nat.zero_le _, by simp⟩
  rintro x ⟨hx, hn⟩
  simp (config := {maxSteps := 2000000}) only [T_specTokenR, Go.Proofs.Try.Oct.tb_specTcharR, go_sem, reduceIte, Nat.reduceEqDiff, Nat.reduceAdd, Nat.reduceMul, Nat.reduceSub, Nat.reduceBEq, Nat.reduceLT, Nat.reduceLeDiff, reduceCtorEq, Int.reduceNeg, Int.reduceEq, String.reduceEq, Int.reduceLT, Int.reduceLE, Int.reduceToNat, Int.reduceAdd, Int.reduceMul, Int.reduceSub]
  (try simp (config := {maxSteps := 2000000}) only [gimp, impB, isT, go_sem, reduceIte, Nat.reduceEqDiff, Nat.reduceAdd, Nat.reduceMul, Nat.reduceSub, Nat.reduceBEq, Nat.reduceLT, Nat.reduceLeDiff, reduceCtorEq, Int.reduceNeg, Int.reduceEq, String.reduceEq, Int.reduceLT, Int.reduceLE, Int.reduceToNat, Int.reduceAdd, Int.reduceMul, Int.reduceSub])
  refine ⟨fun h => by omega, fun hlt hp => ⟨by omega, x + 1, by omega, ⟨by omega, (all_step (by omega) hn).1 hp⟩, by omega⟩, fun hf => ?_⟩
  rw [← span_exit hx hn (fun hlt => ?_)]
  rw [decide_eq_true (by omega : (x : Int) < s.length), Bool.true_and] at hf
  exact hf
def tb_specTokenR : List Blk → List AV → Option (List Blk × AV × Prop)
  | [], [.str s] => some ([], .int .i64 (spanL tcharB s), (s.length ≤ 1000000))
  | _, _ => none
theorem tb_specTokenR_ok : ∀ E args E' res p, tb_specTokenR E args = some (E', res, p) → p → SpecE Try.prog 162 E args E' res := by
  intro E args E' res p h hp
  unfold tb_specTokenR at h
  split at h
  · simp only [Option.some.injEq, Prod.mk.injEq] at h
    obtain ⟨rfl, rfl, rfl⟩ := h
    exact (specTokenR _ hp)
  · cases h


def T_specQuoteR : Tbl := fun g E args => (addT (addT nilT 166 Go.Proofs.Try.Oct.tb_specTokenR) 263 Go.Proofs.Try.Oct.tb_specValueR) g E args
theorem T_specQuoteR_ok : TblOK Try.prog T_specQuoteR := (addT_ok (addT_ok nilT_ok (by decide +kernel) Go.Proofs.Try.Oct.tb_specTokenR_ok) (by decide +kernel) Go.Proofs.Try.Oct.tb_specValueR_ok)
set_option maxRecDepth 100000 in
set_option maxHeartbeats 4000000 in
theorem specQuoteR (s : List UInt8) (h : s.length ≤ 1000000) : SpecE Try.prog 167 [] [.str s] [] (.tuple [.str (quoteS s), .bool (quoteOk s)]) := by
  refine specF0 (C := T_specQuoteR) (wr := false) (D := fun _ => []) (U := fun _ => none) (res := [.str (quoteS s), .bool (quoteOk s)]) Try.Ty.mixed T_specQuoteR_ok Try.func167 (nA := 1) (by decide +kernel) rfl (fun _ => rfl) ?_
  simp only [Try.f167, bodyOf, rlOf]
  rw [W_V]
  simp (config := {maxSteps := 2000000}) only [T_specQuoteR, Go.Proofs.Try.Oct.tb_specTokenR, Go.Proofs.Try.Oct.tb_specValueR, go_sem, reduceIte, Nat.reduceEqDiff, Nat.reduceAdd, Nat.reduceMul, Nat.reduceSub, Nat.reduceBEq, Nat.reduceLT, Nat.reduceLeDiff, reduceCtorEq, Int.reduceNeg, Int.reduceEq, String.reduceEq, Int.reduceLT, Int.reduceLE, Int.reduceToNat, Int.reduceAdd, Int.reduceMul, Int.reduceSub]
  (try simp (config := {maxSteps := 2000000}) only [gimp, impB, isT, go_sem, reduceIte, Nat.reduceEqDiff, Nat.reduceAdd, Nat.reduceMul, Nat.reduceSub, Nat.reduceBEq, Nat.reduceLT, Nat.reduceLeDiff, reduceCtorEq, Int.reduceNeg, Int.reduceEq, String.reduceEq, Int.reduceLT, Int.reduceLE, Int.reduceToNat, Int.reduceAdd, Int.reduceMul, Int.reduceSub])
  refine ⟨by omega, fun h1 => ?_, fun h1 => ⟨by omega, fun h2 => ?_, fun h2 => ?_⟩⟩
  · obtain ⟨e1, e2⟩ := quoteS_tok h1; rw [e1, e2]; exact ⟨rfl, rfl⟩
  · obtain ⟨e1, e2⟩ := quoteS_no h1 h2; rw [e1, e2]; exact ⟨rfl, rfl⟩
  obtain ⟨e1, e2⟩ := quoteS_val h1 h2
  rw [e1, e2]
  refine VL_inv (X := Nat) (fun x => ⟨[(0, .str s), (4, .str (34 :: escS (s.take x))), (5, .int .i64 x)], []⟩) (fun x => x ≤ s.length) (fun x => s.length - x) 0 ?_ ?_ ?_
  · simp only [go_sem, go_sem, reduceIte, Nat.reduceEqDiff, Nat.reduceAdd, Nat.reduceMul, Nat.reduceSub, Nat.reduceBEq, Nat.reduceLT, Nat.reduceLeDiff, reduceCtorEq, Int.reduceNeg, Int.reduceEq, String.reduceEq, Int.reduceLT, Int.reduceLE, Int.reduceToNat, Int.reduceAdd, Int.reduceMul, Int.reduceSub]
    rfl
  · exact Nat.zero_le _
  rintro x hx
  have hel := escS_len (s.take x)
  rw [List.length_take] at hel
  simp (config := {maxSteps := 2000000}) only [T_specQuoteR, Go.Proofs.Try.Oct.tb_specTokenR, Go.Proofs.Try.Oct.tb_specValueR, go_sem, reduceIte, Nat.reduceEqDiff, Nat.reduceAdd, Nat.reduceMul, Nat.reduceSub, Nat.reduceBEq, Nat.reduceLT, Nat.reduceLeDiff, reduceCtorEq, Int.reduceNeg, Int.reduceEq, String.reduceEq, Int.reduceLT, Int.reduceLE, Int.reduceToNat, Int.reduceAdd, Int.reduceMul, Int.reduceSub]
  (try simp (config := {maxSteps := 2000000}) only [gimp, impB, isT, go_sem, reduceIte, Nat.reduceEqDiff, Nat.reduceAdd, Nat.reduceMul, Nat.reduceSub, Nat.reduceBEq, Nat.reduceLT, Nat.reduceLeDiff, reduceCtorEq, Int.reduceNeg, Int.reduceEq, String.reduceEq, Int.reduceLT, Int.reduceLE, Int.reduceToNat, Int.reduceAdd, Int.reduceMul, Int.reduceSub])
  refine ⟨fun hlt => ?_, fun hge => ⟨by omega, by rw [List.take_of_length_le (by omega)]⟩⟩
  have hlt' : x < s.length := by omega
  have hst := esc_step hlt'
  refine ⟨by omega, ⟨fun _ => by omega, fun _ => by omega⟩, fun hq => ?_, fun hq1 hq2 => ?_⟩
  · rw [one_of hlt']
    refine ⟨by omega, by omega, by omega, by simp; omega, by omega, x + 1, ⟨?_, by omega⟩, by omega, by omega⟩
    rw [hst]; unfold escB; rw [if_pos hq]
  · rw [one_of hlt']
    refine ⟨by omega, by omega, by simp; omega, by omega, x + 1, ⟨?_, by omega⟩, by omega, by omega⟩
    rw [hst]; unfold escB; rw [if_neg (by rintro (h | h); exact hq1 h; exact hq2 h)]
def tb_specQuoteR : List Blk → List AV → Option (List Blk × AV × Prop)
  | [], [.str s] => some ([], .tuple [.str (quoteS s), .bool (quoteOk s)], (s.length ≤ 1000000))
  | _, _ => none
theorem tb_specQuoteR_ok : ∀ E args E' res p, tb_specQuoteR E args = some (E', res, p) → p → SpecE Try.prog 167 E args E' res := by
  intro E args E' res p h hp
  unfold tb_specQuoteR at h
  split at h
  · simp only [Option.some.injEq, Prod.mk.injEq] at h
    obtain ⟨rfl, rfl, rfl⟩ := h
    exact (specQuoteR _ hp)
  · cases h

def T_specQuote : Tbl := fun g E args => (addT (addT (addT nilT 164 Go.Proofs.Try.Oct.tb_specToken) 261 Go.Proofs.Try.Oct.tb_specValue) 262 Go.Proofs.Try.Cur.tb_specSize) g E args
theorem T_specQuote_ok : TblOK Try.prog T_specQuote := (addT_ok (addT_ok (addT_ok nilT_ok (by decide +kernel) Go.Proofs.Try.Oct.tb_specToken_ok) (by decide +kernel) Go.Proofs.Try.Oct.tb_specValue_ok) (by decide +kernel) Go.Proofs.Try.Cur.tb_specSize_ok)
set_option maxRecDepth 100000 in
set_option maxHeartbeats 4000000 in
theorem specQuote (s : List UInt8) (h : s.length ≤ 1000000) : SpecE Try.prog 165 [] [.str s] [] (.tuple [.str (quoteS s), .bool (quoteOk s)]) := by
  refine specF0 (C := T_specQuote) (wr := false) (D := fun _ => []) (U := fun _ => none) (res := [.str (quoteS s), .bool (quoteOk s)]) Try.Ty.mixed T_specQuote_ok Try.func165 (nA := 1) (by decide +kernel) rfl (fun _ => rfl) ?_
  simp only [Try.f165, bodyOf, rlOf]
  rw [W_V]
  simp (config := {maxSteps := 2000000}) only [T_specQuote, Go.Proofs.Try.Oct.tb_specToken, Go.Proofs.Try.Oct.tb_specValue, Go.Proofs.Try.Cur.tb_specSize, go_sem, reduceIte, Nat.reduceEqDiff, Nat.reduceAdd, Nat.reduceMul, Nat.reduceSub, Nat.reduceBEq, Nat.reduceLT, Nat.reduceLeDiff, reduceCtorEq, Int.reduceNeg, Int.reduceEq, String.reduceEq, Int.reduceLT, Int.reduceLE, Int.reduceToNat, Int.reduceAdd, Int.reduceMul, Int.reduceSub]
  (try simp (config := {maxSteps := 2000000}) only [gimp, impB, isT, go_sem, reduceIte, Nat.reduceEqDiff, Nat.reduceAdd, Nat.reduceMul, Nat.reduceSub, Nat.reduceBEq, Nat.reduceLT, Nat.reduceLeDiff, reduceCtorEq, Int.reduceNeg, Int.reduceEq, String.reduceEq, Int.reduceLT, Int.reduceLE, Int.reduceToNat, Int.reduceAdd, Int.reduceMul, Int.reduceSub])
  refine ⟨fun h1 => ?_, fun h1 => ⟨fun h2 => ?_, fun h2 => ?_⟩⟩
  · obtain ⟨e1, e2⟩ := quoteS_tok h1; rw [e1, e2]; exact ⟨rfl, rfl⟩
  · obtain ⟨e1, e2⟩ := quoteS_no h1 h2; rw [e1, e2]; exact ⟨rfl, rfl⟩
  obtain ⟨e1, e2⟩ := quoteS_val h1 h2
  rw [e1, e2]
  refine VL_inv (X := Nat) (fun x => ⟨[(0, .str s), (4, .ref 256 0 ((escS (s.take x)).length + 1) ((escS (s.take x)).length + 1)), (17, .it 288)], [(256, .cells 1 false (.int .u8 0) ((34 :: escS (s.take x)).map byteAV)), (288, .iter s x)]⟩) (fun x => x ≤ s.length) (fun x => s.length - x) 0 ?_ ?_ ?_
  · simp only [go_sem, go_sem, reduceIte, Nat.reduceEqDiff, Nat.reduceAdd, Nat.reduceMul, Nat.reduceSub, Nat.reduceBEq, Nat.reduceLT, Nat.reduceLeDiff, reduceCtorEq, Int.reduceNeg, Int.reduceEq, String.reduceEq, Int.reduceLT, Int.reduceLE, Int.reduceToNat, Int.reduceAdd, Int.reduceMul, Int.reduceSub]
    exact ⟨rfl, rfl⟩
  · exact Nat.zero_le _
  rintro x hx
  have hel := escS_len (s.take x)
  rw [List.length_take] at hel
  simp (config := {maxSteps := 2000000}) only [T_specQuote, Go.Proofs.Try.Oct.tb_specToken, Go.Proofs.Try.Oct.tb_specValue, Go.Proofs.Try.Cur.tb_specSize, go_sem, reduceIte, Nat.reduceEqDiff, Nat.reduceAdd, Nat.reduceMul, Nat.reduceSub, Nat.reduceBEq, Nat.reduceLT, Nat.reduceLeDiff, reduceCtorEq, Int.reduceNeg, Int.reduceEq, String.reduceEq, Int.reduceLT, Int.reduceLE, Int.reduceToNat, Int.reduceAdd, Int.reduceMul, Int.reduceSub]
  (try simp (config := {maxSteps := 2000000}) only [gimp, impB, isT, go_sem, reduceIte, Nat.reduceEqDiff, Nat.reduceAdd, Nat.reduceMul, Nat.reduceSub, Nat.reduceBEq, Nat.reduceLT, Nat.reduceLeDiff, reduceCtorEq, Int.reduceNeg, Int.reduceEq, String.reduceEq, Int.reduceLT, Int.reduceLE, Int.reduceToNat, Int.reduceAdd, Int.reduceMul, Int.reduceSub])
  have cat : ∀ n (a : List AV), a.length = n → List.take n a = a := fun n a h => List.take_of_length_le (by omega)
  refine ⟨fun hlt => ⟨hlt, hlt, fun hq => ?_, fun hq1 hq2 => ?_⟩, fun hge => ?_⟩
  · obtain ⟨g1, _⟩ := esc_rune hlt
    have g := g1 hq
    obtain ⟨r1, r2, r3⟩ := rune_pos hlt
    rw [size_drop hlt]
    have hlen : ((s.take (x + (runeAt s x).2)).drop x).length = (runeAt s x).2 := by rw [List.length_drop, List.length_take]; omega
    refine ⟨by omega, by omega, by rw [List.length_drop]; omega, by omega, by omega, ⟨by simp, by rw [hlen]; omega, by rw [hlen]; omega⟩, x + (runeAt s x).2, ⟨?_, ?_, by rw [if_pos hlt]⟩, by omega, by omega⟩
    · rw [g]; simp [hlen]; omega
    · rw [g]; simp [byteAV]
  · obtain ⟨_, g1⟩ := esc_rune hlt
    have g := g1 (by rintro (h | h); exact hq1 h; exact hq2 h)
    obtain ⟨r1, r2, r3⟩ := rune_pos hlt
    rw [size_drop hlt]
    have hlen : ((s.take (x + (runeAt s x).2)).drop x).length = (runeAt s x).2 := by rw [List.length_drop, List.length_take]; omega
    refine ⟨by omega, by rw [List.length_drop]; omega, by omega, by omega, ⟨by rw [hlen]; omega, by rw [hlen]; omega⟩, x + (runeAt s x).2, ⟨?_, ?_, by rw [if_pos hlt]⟩, by omega, by omega⟩
    · rw [g]; simp [hlen]; omega
    · rw [g]; simp
  · have : x = s.length := by omega
    subst this
    rw [List.take_length] at hel
    have e : List.map byteAV (escS s) ++ [AV.int IntKind.u8 34] = List.map byteAV (escS s ++ [34]) := by simp [byteAV]
    simp only [List.take_length]
    rw [e, cat _ _ (by simp), allU8_byte, map_byte_toByte]
    exact ⟨by omega, ⟨by simp, rfl⟩, rfl⟩
def tb_specQuote : List Blk → List AV → Option (List Blk × AV × Prop)
  | [], [.str s] => some ([], .tuple [.str (quoteS s), .bool (quoteOk s)], (s.length ≤ 1000000))
  | _, _ => none
theorem tb_specQuote_ok : ∀ E args E' res p, tb_specQuote E args = some (E', res, p) → p → SpecE Try.prog 165 E args E' res := by
  intro E args E' res p h hp
  unfold tb_specQuote at h
  split at h
  · simp only [Option.some.injEq, Prod.mk.injEq] at h
    obtain ⟨rfl, rfl, rfl⟩ := h
    exact (specQuote _ hp)
  · cases h
end Go.Proofs.Try.Cur
