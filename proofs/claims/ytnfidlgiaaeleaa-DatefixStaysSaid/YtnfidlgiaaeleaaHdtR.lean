/- httpdate: the walks of the document's answer, parts. No condition beyond those that a machine's numbers bring. -/
import Derived.Test.YtnfidlgiaaeleaaHdtB
import Derived.Test.YtnfidlgiaaeleaaDigB
import Derived.Test.YtnfidlgiaaeleaaCvlB
set_option linter.unusedVariables false
set_option linter.unusedSimpArgs false
namespace Go.Proofs.Try.HdtR
open Go Go.Abs Go.Proofs Go.Mdl Go.Proofs.Try.Civil

def T_specPadR : Tbl := fun g E args => (addT nilT 41 Go.Proofs.Try.Dig.tb_specTextR) g E args
theorem T_specPadR_ok : TblOK Try.prog T_specPadR := (addT_ok nilT_ok (by decide +kernel) Go.Proofs.Try.Dig.tb_specTextR_ok)
set_option maxRecDepth 100000 in
set_option maxHeartbeats 4000000 in
theorem specPadR (n wide : Int) (hn : inR .i64 n) (hw : -1000000 ≤ wide ∧ wide ≤ 1000000) : SpecE Try.prog 58 [] [.int .i64 n, .int .i64 wide] [] (.str (padS n wide)) := by
  refine specF0 (C := T_specPadR) (wr := false) (D := fun _ => []) (U := fun _ => none) (res := [.str (padS n wide)]) Try.Ty.mixed T_specPadR_ok Try.func58 (nA := 2) (by decide +kernel) rfl (fun _ => rfl) ?_
  simp only [Try.f58, bodyOf, rlOf]
  rw [W_V]
  simp (config := {maxSteps := 2000000}) only [T_specPadR, Go.Proofs.Try.Dig.tb_specTextR, go_sem, reduceIte, Nat.reduceEqDiff, Nat.reduceAdd, Nat.reduceMul, Nat.reduceDiv, Nat.reduceMod, Nat.reduceSub, Nat.reduceBEq, Nat.reduceLT, Nat.reduceLeDiff, reduceCtorEq, Int.reduceNeg, Int.reduceEq, String.reduceEq, Int.reduceLT, Int.reduceLE, Int.reduceToNat, Int.reduceAdd, Int.reduceMul, Int.reduceSub]
  (try simp (config := {maxSteps := 2000000}) only [gimp, impB, isT, go_sem, reduceIte, Nat.reduceEqDiff, Nat.reduceAdd, Nat.reduceMul, Nat.reduceDiv, Nat.reduceMod, Nat.reduceSub, Nat.reduceBEq, Nat.reduceLT, Nat.reduceLeDiff, reduceCtorEq, Int.reduceNeg, Int.reduceEq, String.reduceEq, Int.reduceLT, Int.reduceLE, Int.reduceToNat, Int.reduceAdd, Int.reduceMul, Int.reduceSub])
  have h1 := textI_len n
  have h2 := textI_pos n
  refine ⟨hn, ?_⟩
  refine VL_inv (X := Nat) (fun k => ⟨[(0, .int .i64 n), (1, .int .i64 wide), (5, .str (List.replicate k 48 ++ textI n))], []⟩) (fun k => k ≤ (if n < 0 then 0 else (max 0 (min wide 20 - ((textI n).length : Int))).toNat)) (fun k => 100 - k) 0 ?_ ?_ ?_
  · simp only [T_specPadR, Go.Proofs.Try.Dig.tb_specTextR, go_sem, reduceIte, Nat.reduceEqDiff, Nat.reduceAdd, Nat.reduceMul, Nat.reduceDiv, Nat.reduceMod, Nat.reduceSub, Nat.reduceBEq, Nat.reduceLT, Nat.reduceLeDiff, reduceCtorEq, Int.reduceNeg, Int.reduceEq, String.reduceEq, Int.reduceLT, Int.reduceLE, Int.reduceToNat, Int.reduceAdd, Int.reduceMul, Int.reduceSub, List.replicate_zero, List.nil_append]
    try rfl
  · omega
  rintro k hk
  simp (config := {maxSteps := 2000000}) only [T_specPadR, Go.Proofs.Try.Dig.tb_specTextR, go_sem, reduceIte, Nat.reduceEqDiff, Nat.reduceAdd, Nat.reduceMul, Nat.reduceDiv, Nat.reduceMod, Nat.reduceSub, Nat.reduceBEq, Nat.reduceLT, Nat.reduceLeDiff, reduceCtorEq, Int.reduceNeg, Int.reduceEq, String.reduceEq, Int.reduceLT, Int.reduceLE, Int.reduceToNat, Int.reduceAdd, Int.reduceMul, Int.reduceSub]
  (try simp (config := {maxSteps := 2000000}) only [gimp, impB, isT, go_sem, reduceIte, Nat.reduceEqDiff, Nat.reduceAdd, Nat.reduceMul, Nat.reduceDiv, Nat.reduceMod, Nat.reduceSub, Nat.reduceBEq, Nat.reduceLT, Nat.reduceLeDiff, reduceCtorEq, Int.reduceNeg, Int.reduceEq, String.reduceEq, Int.reduceLT, Int.reduceLE, Int.reduceToNat, Int.reduceAdd, Int.reduceMul, Int.reduceSub])
  have hge : 0 ≤ n → textI n = textI n ∧ padS n wide = List.replicate (max 0 (min wide 20 - ((textI n).length : Int))).toNat 48 ++ textI n := fun h => ⟨rfl, by rw [padS, if_neg (by omega)]⟩
  have hlen : (List.replicate k 48 ++ textI n).length = k + (textI n).length := by simp
  rw [hlen]
  refine ⟨fun h0 h3 h4 => ⟨by omega, k + 1, rfl, ?_, ?_⟩, fun h => ?_⟩
  · rw [if_neg (by omega)] at hk ⊢; omega
  · rw [if_neg (by omega)] at hk; omega
  · rcases Int.lt_or_le n 0 with hn0 | hn0
    · rw [if_pos hn0] at hk
      obtain rfl : k = 0 := by omega
      rw [padS, if_pos hn0]; rfl
    · rw [if_neg (by omega)] at hk
      rw [(hge hn0).2]
      congr 2
      simp only [Bool.and_eq_false_iff, decide_eq_false_iff_not] at h
      omega
def tb_specPadR : List Blk → List AV → Option (List Blk × AV × Prop)
  | [], [.int .i64 n, .int .i64 wide] => some ([], .str (padS n wide), (inR .i64 n) ∧ (-1000000 ≤ wide ∧ wide ≤ 1000000))
  | _, _ => none
theorem tb_specPadR_ok : ∀ E args E' res p, tb_specPadR E args = some (E', res, p) → p → SpecE Try.prog 58 E args E' res := by
  intro E args E' res p h hp
  unfold tb_specPadR at h
  split at h
  · simp only [Option.some.injEq, Prod.mk.injEq] at h
    obtain ⟨rfl, rfl, rfl⟩ := h
    exact (specPadR _ _ hp.1 hp.2)
  · cases h

def T_specDaysR : Tbl := fun g E args => nilT g E args
theorem T_specDaysR_ok : TblOK Try.prog T_specDaysR := nilT_ok
set_option maxRecDepth 100000 in
set_option maxHeartbeats 4000000 in
theorem specDaysR : SpecE Try.prog 56 [] [] [.cells 1 false (.str []) (hdDays.map .str)] (.ref 0 0 7 7) := by
  refine specFE (C := T_specDaysR) (wr := false) (D := fun _ => []) (U := fun _ => none) (E := []) (E' := [.cells 1 false (.str []) (hdDays.map .str)]) (res := [.ref 0 0 7 7]) [32] Try.Ty.mixed T_specDaysR_ok Try.func56 (nE := 0) (nA := 0) (by decide +kernel) rfl rfl ?_
  simp only [Try.f56, bodyOf, rlOf]
  rw [W_V]
  simp (config := {maxSteps := 2000000}) only [T_specDaysR, go_sem, reduceIte, Nat.reduceEqDiff, Nat.reduceAdd, Nat.reduceMul, Nat.reduceDiv, Nat.reduceMod, Nat.reduceSub, Nat.reduceBEq, Nat.reduceLT, Nat.reduceLeDiff, reduceCtorEq, Int.reduceNeg, Int.reduceEq, String.reduceEq, Int.reduceLT, Int.reduceLE, Int.reduceToNat, Int.reduceAdd, Int.reduceMul, Int.reduceSub, hdDays]
  (try simp (config := {maxSteps := 2000000}) only [gimp, impB, isT, go_sem, reduceIte, Nat.reduceEqDiff, Nat.reduceAdd, Nat.reduceMul, Nat.reduceDiv, Nat.reduceMod, Nat.reduceSub, Nat.reduceBEq, Nat.reduceLT, Nat.reduceLeDiff, reduceCtorEq, Int.reduceNeg, Int.reduceEq, String.reduceEq, Int.reduceLT, Int.reduceLE, Int.reduceToNat, Int.reduceAdd, Int.reduceMul, Int.reduceSub])
def tb_specDaysR : List Blk → List AV → Option (List Blk × AV × Prop)
  | [], [] => some ([.cells 1 false (.str []) (hdDays.map .str)], .ref 0 0 7 7, True)
  | _, _ => none
theorem tb_specDaysR_ok : ∀ E args E' res p, tb_specDaysR E args = some (E', res, p) → p → SpecE Try.prog 56 E args E' res := by
  intro E args E' res p h hp
  unfold tb_specDaysR at h
  split at h
  · simp only [Option.some.injEq, Prod.mk.injEq] at h
    obtain ⟨rfl, rfl, rfl⟩ := h
    exact specDaysR
  · cases h
def T_specMonthsR : Tbl := fun g E args => nilT g E args
theorem T_specMonthsR_ok : TblOK Try.prog T_specMonthsR := nilT_ok
set_option maxRecDepth 100000 in
set_option maxHeartbeats 4000000 in
theorem specMonthsR : SpecE Try.prog 57 [] [] [.cells 1 false (.str []) (hdMonths.map .str)] (.ref 0 0 12 12) := by
  refine specFE (C := T_specMonthsR) (wr := false) (D := fun _ => []) (U := fun _ => none) (E := []) (E' := [.cells 1 false (.str []) (hdMonths.map .str)]) (res := [.ref 0 0 12 12]) [32] Try.Ty.mixed T_specMonthsR_ok Try.func57 (nE := 0) (nA := 0) (by decide +kernel) rfl rfl ?_
  simp only [Try.f57, bodyOf, rlOf]
  rw [W_V]
  simp (config := {maxSteps := 2000000}) only [T_specMonthsR, go_sem, reduceIte, Nat.reduceEqDiff, Nat.reduceAdd, Nat.reduceMul, Nat.reduceDiv, Nat.reduceMod, Nat.reduceSub, Nat.reduceBEq, Nat.reduceLT, Nat.reduceLeDiff, reduceCtorEq, Int.reduceNeg, Int.reduceEq, String.reduceEq, Int.reduceLT, Int.reduceLE, Int.reduceToNat, Int.reduceAdd, Int.reduceMul, Int.reduceSub, hdMonths]
  (try simp (config := {maxSteps := 2000000}) only [gimp, impB, isT, go_sem, reduceIte, Nat.reduceEqDiff, Nat.reduceAdd, Nat.reduceMul, Nat.reduceDiv, Nat.reduceMod, Nat.reduceSub, Nat.reduceBEq, Nat.reduceLT, Nat.reduceLeDiff, reduceCtorEq, Int.reduceNeg, Int.reduceEq, String.reduceEq, Int.reduceLT, Int.reduceLE, Int.reduceToNat, Int.reduceAdd, Int.reduceMul, Int.reduceSub])
def tb_specMonthsR : List Blk → List AV → Option (List Blk × AV × Prop)
  | [], [] => some ([.cells 1 false (.str []) (hdMonths.map .str)], .ref 0 0 12 12, True)
  | _, _ => none
theorem tb_specMonthsR_ok : ∀ E args E' res p, tb_specMonthsR E args = some (E', res, p) → p → SpecE Try.prog 57 E args E' res := by
  intro E args E' res p h hp
  unfold tb_specMonthsR at h
  split at h
  · simp only [Option.some.injEq, Prod.mk.injEq] at h
    obtain ⟨rfl, rfl, rfl⟩ := h
    exact specMonthsR
  · cases h
def T_specNumberR : Tbl := fun g E args => (addT nilT 98 Go.Proofs.Try.Dig.tb_specNumberR) g E args
theorem T_specNumberR_ok : TblOK Try.prog T_specNumberR := (addT_ok nilT_ok (by decide +kernel) Go.Proofs.Try.Dig.tb_specNumberR_ok)
set_option maxRecDepth 100000 in
set_option maxHeartbeats 4000000 in
theorem specNumberR (s : List UInt8) (hs : s.length ≤ 1000000) : SpecE Try.prog 83 [] [.str s] [] (.int .i64 (numN s)) := by
  refine specF0 (C := T_specNumberR) (wr := false) (D := fun _ => []) (U := fun _ => none) (res := [.int .i64 (numN s)]) Try.Ty.mixed T_specNumberR_ok Try.func83 (nA := 1) (by decide +kernel) rfl (fun _ => rfl) ?_
  simp only [Try.f83, bodyOf, rlOf]
  rw [W_V]
  simp (config := {maxSteps := 2000000}) only [T_specNumberR, Go.Proofs.Try.Dig.tb_specNumberR, go_sem, reduceIte, Nat.reduceEqDiff, Nat.reduceAdd, Nat.reduceMul, Nat.reduceDiv, Nat.reduceMod, Nat.reduceSub, Nat.reduceBEq, Nat.reduceLT, Nat.reduceLeDiff, reduceCtorEq, Int.reduceNeg, Int.reduceEq, String.reduceEq, Int.reduceLT, Int.reduceLE, Int.reduceToNat, Int.reduceAdd, Int.reduceMul, Int.reduceSub]
  (try simp (config := {maxSteps := 2000000}) only [gimp, impB, isT, go_sem, reduceIte, Nat.reduceEqDiff, Nat.reduceAdd, Nat.reduceMul, Nat.reduceDiv, Nat.reduceMod, Nat.reduceSub, Nat.reduceBEq, Nat.reduceLT, Nat.reduceLeDiff, reduceCtorEq, Int.reduceNeg, Int.reduceEq, String.reduceEq, Int.reduceLT, Int.reduceLE, Int.reduceToNat, Int.reduceAdd, Int.reduceMul, Int.reduceSub])
  exact ⟨hs, fun h => by rw [numN, if_neg h], fun h => by rw [numN, if_pos h]⟩
def tb_specNumberR : List Blk → List AV → Option (List Blk × AV × Prop)
  | [], [.str s] => some ([], .int .i64 (numN s), (s.length ≤ 1000000))
  | _, _ => none
theorem tb_specNumberR_ok : ∀ E args E' res p, tb_specNumberR E args = some (E', res, p) → p → SpecE Try.prog 83 E args E' res := by
  intro E args E' res p h hp
  unfold tb_specNumberR at h
  split at h
  · simp only [Option.some.injEq, Prod.mk.injEq] at h
    obtain ⟨rfl, rfl, rfl⟩ := h
    exact (specNumberR _ hp)
  · cases h
def T_specIndexR : Tbl := fun g E args => nilT g E args
theorem T_specIndexR_ok : TblOK Try.prog T_specIndexR := nilT_ok
set_option maxRecDepth 100000 in
set_option maxHeartbeats 4000000 in
theorem specIndexR (l : List (List UInt8)) (s : List UInt8) (hl : l.length ≤ 1000000) : SpecE Try.prog 82 [] [enc_strs l, .str s] [] (.int .i64 (ixN l s)) := by
  refine specF0 (C := T_specIndexR) (wr := false) (D := fun _ => []) (U := fun _ => none) (res := [.int .i64 (ixN l s)]) Try.Ty.mixed T_specIndexR_ok Try.func82 (nA := 2) (by decide +kernel) rfl (fun _ => rfl) ?_
  simp only [Try.f82, bodyOf, rlOf]
  rw [W_V]
  simp (config := {maxSteps := 2000000}) only [T_specIndexR, go_sem, reduceIte, Nat.reduceEqDiff, Nat.reduceAdd, Nat.reduceMul, Nat.reduceDiv, Nat.reduceMod, Nat.reduceSub, Nat.reduceBEq, Nat.reduceLT, Nat.reduceLeDiff, reduceCtorEq, Int.reduceNeg, Int.reduceEq, String.reduceEq, Int.reduceLT, Int.reduceLE, Int.reduceToNat, Int.reduceAdd, Int.reduceMul, Int.reduceSub]
  (try simp (config := {maxSteps := 2000000}) only [gimp, impB, isT, go_sem, reduceIte, Nat.reduceEqDiff, Nat.reduceAdd, Nat.reduceMul, Nat.reduceDiv, Nat.reduceMod, Nat.reduceSub, Nat.reduceBEq, Nat.reduceLT, Nat.reduceLeDiff, reduceCtorEq, Int.reduceNeg, Int.reduceEq, String.reduceEq, Int.reduceLT, Int.reduceLE, Int.reduceToNat, Int.reduceAdd, Int.reduceMul, Int.reduceSub])
  refine VL_inv (X := Nat) (fun k => ⟨[(0, enc_strs l), (1, .str s), (5, .int .i64 k)], []⟩) (fun k => k ≤ l.length ∧ (l.take k).any (fun w => decide (w = s)) = false) (fun k => l.length - k) 0 ?_ ?_ ?_
  · simp only [T_specIndexR, go_sem, reduceIte, Nat.reduceEqDiff, Nat.reduceAdd, Nat.reduceMul, Nat.reduceDiv, Nat.reduceMod, Nat.reduceSub, Nat.reduceBEq, Nat.reduceLT, Nat.reduceLeDiff, reduceCtorEq, Int.reduceNeg, Int.reduceEq, String.reduceEq, Int.reduceLT, Int.reduceLE, Int.reduceToNat, Int.reduceAdd, Int.reduceMul, Int.reduceSub]
    try rfl
  · exact ⟨Nat.zero_le _, by simp⟩
  rintro k ⟨hk, hn⟩
  simp (config := {maxSteps := 2000000}) only [T_specIndexR, go_sem, reduceIte, Nat.reduceEqDiff, Nat.reduceAdd, Nat.reduceMul, Nat.reduceDiv, Nat.reduceMod, Nat.reduceSub, Nat.reduceBEq, Nat.reduceLT, Nat.reduceLeDiff, reduceCtorEq, Int.reduceNeg, Int.reduceEq, String.reduceEq, Int.reduceLT, Int.reduceLE, Int.reduceToNat, Int.reduceAdd, Int.reduceMul, Int.reduceSub]
  (try simp (config := {maxSteps := 2000000}) only [gimp, impB, isT, go_sem, reduceIte, Nat.reduceEqDiff, Nat.reduceAdd, Nat.reduceMul, Nat.reduceDiv, Nat.reduceMod, Nat.reduceSub, Nat.reduceBEq, Nat.reduceLT, Nat.reduceLeDiff, reduceCtorEq, Int.reduceNeg, Int.reduceEq, String.reduceEq, Int.reduceLT, Int.reduceLE, Int.reduceToNat, Int.reduceAdd, Int.reduceMul, Int.reduceSub])
  refine ⟨fun hlt => ⟨by omega, fun he => ?_, fun hne => ⟨by omega, k + 1, by omega, ⟨by omega, ?_⟩, by omega⟩⟩, fun hge => ?_⟩
  · exact (idxP_hit (p := fun w => decide (w = s)) [] (by omega) hn (by simpa using he)).symm
  · rw [take_succ_getD [] (by omega), List.any_append, hn]
    simpa using hne
  · have : k = l.length := by omega
    subst this
    rw [List.take_length] at hn
    exact (idxP_none hn).symm
def tb_specIndexR : List Blk → List AV → Option (List Blk × AV × Prop)
  | [], [a0, .str s] => some ([], .int .i64 (ixN (dec_strs a0) s), ((dec_strs a0).length ≤ 1000000) ∧ argOK a0 (enc_strs (dec_strs a0)))
  | _, _ => none
theorem tb_specIndexR_ok : ∀ E args E' res p, tb_specIndexR E args = some (E', res, p) → p → SpecE Try.prog 82 E args E' res := by
  intro E args E' res p h hp
  unfold tb_specIndexR at h
  split at h
  · simp only [Option.some.injEq, Prod.mk.injEq] at h
    obtain ⟨rfl, rfl, rfl⟩ := h
    exact SpecE.args (specIndexR _ _ hp.1) (.cons hp.2 (.cons (argOK.refl _) .nil))
  · cases h
def T_specTimeR : Tbl := fun g E args => (addT nilT 83 Go.Proofs.Try.HdtR.tb_specNumberR) g E args
theorem T_specTimeR_ok : TblOK Try.prog T_specTimeR := (addT_ok nilT_ok (by decide +kernel) Go.Proofs.Try.HdtR.tb_specNumberR_ok)
set_option maxRecDepth 100000 in
set_option maxHeartbeats 4000000 in
theorem specTimeR (s : List UInt8) (y mo d h mi se : Int) (hs : s.length ≤ 1000000) : SpecE Try.prog 84 [] [.str s, .agg [.int .i64 y, .int .i64 mo, .int .i64 d, .int .i64 h, .int .i64 mi, .int .i64 se]] [] (.tuple [.agg [.int .i64 (tiD s ⟨y, mo, d, h, mi, se⟩).y, .int .i64 (tiD s ⟨y, mo, d, h, mi, se⟩).mo, .int .i64 (tiD s ⟨y, mo, d, h, mi, se⟩).d, .int .i64 (tiD s ⟨y, mo, d, h, mi, se⟩).h, .int .i64 (tiD s ⟨y, mo, d, h, mi, se⟩).mi, .int .i64 (tiD s ⟨y, mo, d, h, mi, se⟩).se], .bool (tiB s)]) := by
  refine specF0 (C := T_specTimeR) (wr := false) (D := fun i => if i = 6 then [14, 150064, 120064] else []) (U := fun _ => none) (res := [.agg [.int .i64 (tiD s ⟨y, mo, d, h, mi, se⟩).y, .int .i64 (tiD s ⟨y, mo, d, h, mi, se⟩).mo, .int .i64 (tiD s ⟨y, mo, d, h, mi, se⟩).d, .int .i64 (tiD s ⟨y, mo, d, h, mi, se⟩).h, .int .i64 (tiD s ⟨y, mo, d, h, mi, se⟩).mi, .int .i64 (tiD s ⟨y, mo, d, h, mi, se⟩).se], .bool (tiB s)]) Try.Ty.mixed T_specTimeR_ok Try.func84 (nA := 2) (by decide +kernel) rfl (fun _ => rfl) ?_
  simp only [Try.f84, bodyOf, rlOf]
  rw [W_V]
  simp (config := {maxSteps := 2000000}) only [T_specTimeR, Go.Proofs.Try.HdtR.tb_specNumberR, go_sem, reduceIte, Nat.reduceEqDiff, Nat.reduceAdd, Nat.reduceMul, Nat.reduceDiv, Nat.reduceMod, Nat.reduceSub, Nat.reduceBEq, Nat.reduceLT, Nat.reduceLeDiff, reduceCtorEq, Int.reduceNeg, Int.reduceEq, String.reduceEq, Int.reduceLT, Int.reduceLE, Int.reduceToNat, Int.reduceAdd, Int.reduceMul, Int.reduceSub]
  (try simp (config := {maxSteps := 2000000}) only [gimp, impB, isT, go_sem, reduceIte, Nat.reduceEqDiff, Nat.reduceAdd, Nat.reduceMul, Nat.reduceDiv, Nat.reduceMod, Nat.reduceSub, Nat.reduceBEq, Nat.reduceLT, Nat.reduceLeDiff, reduceCtorEq, Int.reduceNeg, Int.reduceEq, String.reduceEq, Int.reduceLT, Int.reduceLE, Int.reduceToNat, Int.reduceAdd, Int.reduceMul, Int.reduceSub])
  refine ⟨fun h => by omega, fun h _ => by omega, fun h => ?_, fun h1 h2 h3 => ?_⟩
  · have hf : tiOk s = false := by
      unfold tiOk
      rcases h with (h | h) | h
      · have : ¬ s.length = 8 := by omega
        simp [this]
      · simp only [h, decide_false, Bool.and_false, Bool.false_and]
      · simp only [h, decide_false, Bool.and_false, Bool.false_and]
    simp [tiD, tiB, hf]
  · have hl : s.length = 8 := by omega
    have hf : tiOk s = true := by
      unfold tiOk
      simp only [hl, h2, h3, decide_true, Bool.and_true]
    refine ⟨by omega, ?_, by omega, ?_, by omega, ?_, ?_, ?_⟩
    · rw [List.length_take]; omega
    · rw [List.length_drop, List.length_take]; omega
    · rw [List.length_drop]; omega
    · simp only [tiD, hf, if_true]
    · simp only [tiB, hf, Bool.true_and]
def tb_specTimeR : List Blk → List AV → Option (List Blk × AV × Prop)
  | [], [.str s, .agg [.int .i64 y, .int .i64 mo, .int .i64 d, .int .i64 h, .int .i64 mi, .int .i64 se]] => some ([], .tuple [.agg [.int .i64 (tiD s ⟨y, mo, d, h, mi, se⟩).y, .int .i64 (tiD s ⟨y, mo, d, h, mi, se⟩).mo, .int .i64 (tiD s ⟨y, mo, d, h, mi, se⟩).d, .int .i64 (tiD s ⟨y, mo, d, h, mi, se⟩).h, .int .i64 (tiD s ⟨y, mo, d, h, mi, se⟩).mi, .int .i64 (tiD s ⟨y, mo, d, h, mi, se⟩).se], .bool (tiB s)], (s.length ≤ 1000000))
  | _, _ => none
theorem tb_specTimeR_ok : ∀ E args E' res p, tb_specTimeR E args = some (E', res, p) → p → SpecE Try.prog 84 E args E' res := by
  intro E args E' res p h hp
  unfold tb_specTimeR at h
  split at h
  · simp only [Option.some.injEq, Prod.mk.injEq] at h
    obtain ⟨rfl, rfl, rfl⟩ := h
    exact (specTimeR _ _ _ _ _ _ _ hp)
  · cases h
def T_specDayR : Tbl := fun g E args => (addT (addT nilT 85 Go.Proofs.Try.Civil.tb_pDaysR) 86 Go.Proofs.Try.Civil.tb_pWeekdayR) g E args
theorem T_specDayR_ok : TblOK Try.prog T_specDayR := (addT_ok (addT_ok nilT_ok (by decide +kernel) Go.Proofs.Try.Civil.tb_pDaysR_ok) (by decide +kernel) Go.Proofs.Try.Civil.tb_pWeekdayR_ok)
set_option maxRecDepth 100000 in
set_option maxHeartbeats 4000000 in
theorem specDayR (y mo d h mi se : Int) : SpecE Try.prog 51 [] [.agg [.int .i64 y, .int .i64 mo, .int .i64 d, .int .i64 h, .int .i64 mi, .int .i64 se]] [] (.int .i64 (weekday (dayAns y mo d))) := by
  refine specF0 (C := T_specDayR) (wr := false) (D := fun _ => []) (U := fun _ => none) (res := [.int .i64 (weekday (dayAns y mo d))]) Try.Ty.mixed T_specDayR_ok Try.func51 (nA := 1) (by decide +kernel) rfl (fun _ => rfl) ?_
  simp only [Try.f51, bodyOf, rlOf]
  rw [W_V]
  simp (config := {maxSteps := 2000000}) only [T_specDayR, Go.Proofs.Try.Civil.tb_pDaysR, Go.Proofs.Try.Civil.tb_pWeekdayR, go_sem, reduceIte, Nat.reduceEqDiff, Nat.reduceAdd, Nat.reduceMul, Nat.reduceDiv, Nat.reduceMod, Nat.reduceSub, Nat.reduceBEq, Nat.reduceLT, Nat.reduceLeDiff, reduceCtorEq, Int.reduceNeg, Int.reduceEq, String.reduceEq, Int.reduceLT, Int.reduceLE, Int.reduceToNat, Int.reduceAdd, Int.reduceMul, Int.reduceSub]
  (try simp (config := {maxSteps := 2000000}) only [gimp, impB, isT, go_sem, reduceIte, Nat.reduceEqDiff, Nat.reduceAdd, Nat.reduceMul, Nat.reduceDiv, Nat.reduceMod, Nat.reduceSub, Nat.reduceBEq, Nat.reduceLT, Nat.reduceLeDiff, reduceCtorEq, Int.reduceNeg, Int.reduceEq, String.reduceEq, Int.reduceLT, Int.reduceLE, Int.reduceToNat, Int.reduceAdd, Int.reduceMul, Int.reduceSub])
def tb_specDayR : List Blk → List AV → Option (List Blk × AV × Prop)
  | [], [.agg [.int .i64 y, .int .i64 mo, .int .i64 d, .int .i64 h, .int .i64 mi, .int .i64 se]] => some ([], .int .i64 (weekday (dayAns y mo d)), True)
  | _, _ => none
theorem tb_specDayR_ok : ∀ E args E' res p, tb_specDayR E args = some (E', res, p) → p → SpecE Try.prog 51 E args E' res := by
  intro E args E' res p h hp
  unfold tb_specDayR at h
  split at h
  · simp only [Option.some.injEq, Prod.mk.injEq] at h
    obtain ⟨rfl, rfl, rfl⟩ := h
    exact (specDayR _ _ _ _ _ _)
  · cases h
theorem pad_le (n w : Int) : (padS n w).length ≤ 100 := by
  have h := textI_len n
  unfold padS
  split
  · omega
  · rw [List.length_append, List.length_replicate]; omega
theorem clk_le (d : Dt) : (clkS d).length ≤ 302 := by
  have h1 := pad_le d.h 2
  have h2 := pad_le d.mi 2
  have h3 := pad_le d.se 2
  unfold clkS
  simp only [List.length_append, List.length_cons, List.length_nil]
  omega
def T_specClockR : Tbl := fun g E args => (addT nilT 58 Go.Proofs.Try.HdtR.tb_specPadR) g E args
theorem T_specClockR_ok : TblOK Try.prog T_specClockR := (addT_ok nilT_ok (by decide +kernel) Go.Proofs.Try.HdtR.tb_specPadR_ok)
set_option maxRecDepth 100000 in
set_option maxHeartbeats 4000000 in
theorem specClockR (y mo d h mi se : Int) (hh : inR .i64 h) (hm : inR .i64 mi) (hs : inR .i64 se) : SpecE Try.prog 59 [] [.agg [.int .i64 y, .int .i64 mo, .int .i64 d, .int .i64 h, .int .i64 mi, .int .i64 se]] [] (.str (clkS ⟨y, mo, d, h, mi, se⟩)) := by
  refine specF0 (C := T_specClockR) (wr := false) (D := fun _ => []) (U := fun _ => none) (res := [.str (clkS ⟨y, mo, d, h, mi, se⟩)]) Try.Ty.mixed T_specClockR_ok Try.func59 (nA := 1) (by decide +kernel) rfl (fun _ => rfl) ?_
  simp only [Try.f59, bodyOf, rlOf]
  rw [W_V]
  simp (config := {maxSteps := 2000000}) only [T_specClockR, Go.Proofs.Try.HdtR.tb_specPadR, go_sem, reduceIte, Nat.reduceEqDiff, Nat.reduceAdd, Nat.reduceMul, Nat.reduceDiv, Nat.reduceMod, Nat.reduceSub, Nat.reduceBEq, Nat.reduceLT, Nat.reduceLeDiff, reduceCtorEq, Int.reduceNeg, Int.reduceEq, String.reduceEq, Int.reduceLT, Int.reduceLE, Int.reduceToNat, Int.reduceAdd, Int.reduceMul, Int.reduceSub, clkS]
  (try simp (config := {maxSteps := 2000000}) only [gimp, impB, isT, go_sem, reduceIte, Nat.reduceEqDiff, Nat.reduceAdd, Nat.reduceMul, Nat.reduceDiv, Nat.reduceMod, Nat.reduceSub, Nat.reduceBEq, Nat.reduceLT, Nat.reduceLeDiff, reduceCtorEq, Int.reduceNeg, Int.reduceEq, String.reduceEq, Int.reduceLT, Int.reduceLE, Int.reduceToNat, Int.reduceAdd, Int.reduceMul, Int.reduceSub])
  have h1 := pad_le h 2
  have h2 := pad_le mi 2
  have h3 := pad_le se 2
  simp only [inR] at hh hm hs
  and_intros <;> first | omega | rfl | (simp only [List.length_append, List.length_cons, List.length_nil]; omega)
def tb_specClockR : List Blk → List AV → Option (List Blk × AV × Prop)
  | [], [.agg [.int .i64 y, .int .i64 mo, .int .i64 d, .int .i64 h, .int .i64 mi, .int .i64 se]] => some ([], .str (clkS ⟨y, mo, d, h, mi, se⟩), (inR .i64 h) ∧ (inR .i64 mi) ∧ (inR .i64 se))
  | _, _ => none
theorem tb_specClockR_ok : ∀ E args E' res p, tb_specClockR E args = some (E', res, p) → p → SpecE Try.prog 59 E args E' res := by
  intro E args E' res p h hp
  unfold tb_specClockR at h
  split at h
  · simp only [Option.some.injEq, Prod.mk.injEq] at h
    obtain ⟨rfl, rfl, rfl⟩ := h
    exact (specClockR _ _ _ _ _ _ hp.1 hp.2.1 hp.2.2)
  · cases h
def T_specWriteR : Tbl := fun g E args => (addT (addT (addT (addT (addT nilT 58 Go.Proofs.Try.HdtR.tb_specPadR) 59 Go.Proofs.Try.HdtR.tb_specClockR) 51 Go.Proofs.Try.HdtR.tb_specDayR) 56 Go.Proofs.Try.HdtR.tb_specDaysR) 57 Go.Proofs.Try.HdtR.tb_specMonthsR) g E args
theorem T_specWriteR_ok : TblOK Try.prog T_specWriteR := (addT_ok (addT_ok (addT_ok (addT_ok (addT_ok nilT_ok (by decide +kernel) Go.Proofs.Try.HdtR.tb_specPadR_ok) (by decide +kernel) Go.Proofs.Try.HdtR.tb_specClockR_ok) (by decide +kernel) Go.Proofs.Try.HdtR.tb_specDayR_ok) (by decide +kernel) Go.Proofs.Try.HdtR.tb_specDaysR_ok) (by decide +kernel) Go.Proofs.Try.HdtR.tb_specMonthsR_ok)
set_option maxRecDepth 100000 in
set_option maxHeartbeats 4000000 in
theorem specWriteR (y mo d h mi se form : Int) (hd : dtIn ⟨y, mo, d, h, mi, se⟩ (weekday (dayAns y mo d))) : SpecE Try.prog 22 [] [.agg [.int .i64 y, .int .i64 mo, .int .i64 d, .int .i64 h, .int .i64 mi, .int .i64 se], .int .i64 form] [] (.str (writeS ⟨y, mo, d, h, mi, se⟩ (weekday (dayAns y mo d)) form)) := by
  refine specF0 (C := T_specWriteR) (wr := false) (D := fun i => if i = 1 then [0, 5, 10048, 20048, 80048, 60048, 60144, 40144, 50144] else []) (U := fun _ => none) (res := [.str (writeS ⟨y, mo, d, h, mi, se⟩ (weekday (dayAns y mo d)) form)]) Try.Ty.mixed T_specWriteR_ok Try.func22 (nA := 2) (by decide +kernel) rfl (fun _ => rfl) ?_
  simp only [Try.f22, bodyOf, rlOf]
  rw [W_V]
  simp (config := {maxSteps := 2000000}) only [T_specWriteR, Go.Proofs.Try.HdtR.tb_specPadR, Go.Proofs.Try.HdtR.tb_specClockR, Go.Proofs.Try.HdtR.tb_specDayR, Go.Proofs.Try.HdtR.tb_specDaysR, Go.Proofs.Try.HdtR.tb_specMonthsR, go_sem, reduceIte, Nat.reduceEqDiff, Nat.reduceAdd, Nat.reduceMul, Nat.reduceDiv, Nat.reduceMod, Nat.reduceSub, Nat.reduceBEq, Nat.reduceLT, Nat.reduceLeDiff, reduceCtorEq, Int.reduceNeg, Int.reduceEq, String.reduceEq, Int.reduceLT, Int.reduceLE, Int.reduceToNat, Int.reduceAdd, Int.reduceMul, Int.reduceSub]
  (try simp (config := {maxSteps := 2000000}) only [gimp, impB, isT, go_sem, reduceIte, Nat.reduceEqDiff, Nat.reduceAdd, Nat.reduceMul, Nat.reduceDiv, Nat.reduceMod, Nat.reduceSub, Nat.reduceBEq, Nat.reduceLT, Nat.reduceLeDiff, reduceCtorEq, Int.reduceNeg, Int.reduceEq, String.reduceEq, Int.reduceLT, Int.reduceLE, Int.reduceToNat, Int.reduceAdd, Int.reduceMul, Int.reduceSub])
  obtain ⟨hw, hy, hmo, hd, hh, hmi, hse⟩ := hd
  simp only at hy hmo hd hh hmi hse
  have c := clk_le ⟨y, mo, d, h, mi, se⟩
  have p1 := pad_le d 2
  have p2 := pad_le y 4
  have p3 := pad_le (y.tmod 100) 2
  have p4 := pad_le d 1
  have et : y.tmod 100 = y % 100 := rem_nn _ (by omega)
  generalize ew : weekday (dayAns y mo d) = w at *
  have l1 : hdDays.length = 7 := rfl
  have l2 : hdMonths.length = 12 := rfl
  have g1 := (day_cases (k := w.toNat) (by omega)).2.2.2.2.2.1
  have g1' : (hdDays.getD w.toNat []).length ≤ 9 := by
    have : w.toNat = 0 ∨ w.toNat = 1 ∨ w.toNat = 2 ∨ w.toNat = 3 ∨ w.toNat = 4 ∨ w.toNat = 5 ∨ w.toNat = 6 := by omega
    rcases this with e | e | e | e | e | e | e <;> rw [e] <;> decide
  have g2 := (month_cases (k := (mo - 1).toNat) (by omega)).2.1
  simp only [Nat.zero_add, l1, l2, et]
  rw [et] at p3
  unfold writeS
  generalize hdDays.getD w.toNat [] = W at *
  generalize hdMonths.getD (mo - 1).toNat [] = M at *
  generalize clkS ⟨y, mo, d, h, mi, se⟩ = K at *
  refine ⟨?_, ?_, ?_, ?_, ?_, fun h1 => ?_, fun h1 => ⟨fun h2 => ?_, fun h2 => ?_⟩⟩
  iterate 5
    · (first | omega | (simp only [true_and]; omega))
  · rw [if_pos h1]
    and_intros <;> first | omega | rfl | (simp only [List.length_append, List.length_cons, List.length_nil, List.length_take]; omega) | (simp only [List.append_assoc, List.cons_append, List.nil_append]; done)
  · rw [if_neg h1, if_pos h2]
    and_intros <;> first | omega | rfl | (simp only [List.length_append, List.length_cons, List.length_nil, List.length_take]; omega) | (simp only [List.append_assoc, List.cons_append, List.nil_append]; done)
  · rw [if_neg h1, if_neg h2]
    refine ⟨by omega, fun h3 => ?_, fun h3 => ?_⟩
    · rw [if_pos h3]
      and_intros <;> first | omega | rfl | (simp only [List.length_append, List.length_cons, List.length_nil, List.length_take]; omega) | (simp only [List.append_assoc, List.cons_append, List.nil_append]; done)
    · rw [if_neg (by simp only; omega)]
      and_intros <;> first | omega | rfl | (simp only [List.length_append, List.length_cons, List.length_nil, List.length_take]; omega) | (simp only [List.append_assoc, List.cons_append, List.nil_append]; done)
def tb_specWriteR : List Blk → List AV → Option (List Blk × AV × Prop)
  | [], [.agg [.int .i64 y, .int .i64 mo, .int .i64 d, .int .i64 h, .int .i64 mi, .int .i64 se], .int .i64 form] => some ([], .str (writeS ⟨y, mo, d, h, mi, se⟩ (weekday (dayAns y mo d)) form), (dtIn ⟨y, mo, d, h, mi, se⟩ (weekday (dayAns y mo d))))
  | _, _ => none
theorem tb_specWriteR_ok : ∀ E args E' res p, tb_specWriteR E args = some (E', res, p) → p → SpecE Try.prog 22 E args E' res := by
  intro E args E' res p h hp
  unfold tb_specWriteR at h
  split at h
  · simp only [Option.some.injEq, Prod.mk.injEq] at h
    obtain ⟨rfl, rfl, rfl⟩ := h
    exact (specWriteR _ _ _ _ _ _ _ hp)
  · cases h
end Go.Proofs.Try.HdtR
