/- field: the walks. Condition: texts are no longer than a machine holds. -/
import Derived.Test.YtnfidlgiaaeleaaDoorFldM
import Derived.Test.YtnfidlgiaaeleaaDoorLib
import Derived.Test.YtnfidlgiaaeleaaDoorOctB
set_option linter.unusedVariables false
set_option linter.unusedSimpArgs false
namespace Go.Proofs.Tryd.Fld
open Go Go.Abs Go.Proofs Go.Mdl

def T_specParse : Tbl := fun g E args => (addT (addT (addT (addT nilT 37 Go.Proofs.Tryd.Lib.tb_specCut) 38 Go.Proofs.Tryd.Oct.tb_specToken) 39 Go.Proofs.Tryd.Oct.tb_specValue) 40 Go.Proofs.Tryd.Oct.tb_specTrim) g E args
theorem T_specParse_ok : TblOK Tryd.prog T_specParse := (addT_ok (addT_ok (addT_ok (addT_ok nilT_ok (by decide +kernel) Go.Proofs.Tryd.Lib.tb_specCut_ok) (by decide +kernel) Go.Proofs.Tryd.Oct.tb_specToken_ok) (by decide +kernel) Go.Proofs.Tryd.Oct.tb_specValue_ok) (by decide +kernel) Go.Proofs.Tryd.Oct.tb_specTrim_ok)
set_option maxRecDepth 100000 in
set_option maxHeartbeats 4000000 in
theorem specParse (s : List UInt8) (hs : s.length ≤ maxLen) : SpecE Tryd.prog 16 [] [.str s] [] (.tuple [.agg [.str (fldName s), .str (fldValue s)], .int .i64 (fldErr s)]) := by
  refine specF0 (C := T_specParse) (wr := false) (D := fun _ => []) (U := fun _ => none) (res := [.agg [.str (fldName s), .str (fldValue s)], .int .i64 (fldErr s)]) Tryd.Ty.mixed T_specParse_ok Tryd.func16 (nA := 1) (by decide +kernel) rfl (fun _ => rfl) ?_
  simp only [Tryd.f16, bodyOf, rlOf]
  rw [W_V]
  simp (config := {maxSteps := 2000000}) only [T_specParse, Go.Proofs.Tryd.Lib.tb_specCut, Go.Proofs.Tryd.Oct.tb_specToken, Go.Proofs.Tryd.Oct.tb_specValue, Go.Proofs.Tryd.Oct.tb_specTrim, go_sem, reduceIte, Nat.reduceEqDiff, Nat.reduceAdd, Nat.reduceMul, Nat.reduceDiv, Nat.reduceMod, Nat.reduceSub, Nat.reduceBEq, Nat.reduceLT, Nat.reduceLeDiff, reduceCtorEq, Int.reduceNeg, Int.reduceEq, String.reduceEq, Int.reduceLT, Int.reduceLE, Int.reduceToNat, Int.reduceAdd, Int.reduceMul, Int.reduceSub]
  (try simp (config := {maxSteps := 2000000}) only [gimp, impB, isT, go_sem, reduceIte, Nat.reduceEqDiff, Nat.reduceAdd, Nat.reduceMul, Nat.reduceDiv, Nat.reduceMod, Nat.reduceSub, Nat.reduceBEq, Nat.reduceLT, Nat.reduceLeDiff, reduceCtorEq, Int.reduceNeg, Int.reduceEq, String.reduceEq, Int.reduceLT, Int.reduceLE, Int.reduceToNat, Int.reduceAdd, Int.reduceMul, Int.reduceSub])
  refine ⟨hs, fun h1 => ?_, fun h1 => ⟨fun h2 => ?_, fun h2 => ⟨fun h3 => ?_, fun h3 => ?_⟩⟩⟩
  · simp [fldName, fldValue, fldErr, h1]
  · simp [fldName, fldValue, fldErr, h1, h2]
  · simp [fldName, fldValue, fldErr, h1, h2, h3]
  · refine ⟨?_, ?_⟩
    · have : s.length ≤ 9223372036854775807 := hs
      show _ ≤ 9223372036854775807
      simp; omega
    · simp [fldName, fldValue, fldErr, h1, h2, h3]
def tb_specParse : List Blk → List AV → Option (List Blk × AV × Prop)
  | [], [.str s] => some ([], .tuple [.agg [.str (fldName s), .str (fldValue s)], .int .i64 (fldErr s)], (s.length ≤ maxLen))
  | _, _ => none
theorem tb_specParse_ok : ∀ E args E' res p, tb_specParse E args = some (E', res, p) → p → SpecE Tryd.prog 16 E args E' res := by
  intro E args E' res p h hp
  unfold tb_specParse at h
  split at h
  · simp only [Option.some.injEq, Prod.mk.injEq] at h
    obtain ⟨rfl, rfl, rfl⟩ := h
    exact (specParse _ hp)
  · cases h

def T_specLine : Tbl := fun g E args => nilT g E args
theorem T_specLine_ok : TblOK Tryd.prog T_specLine := nilT_ok
set_option maxRecDepth 100000 in
set_option maxHeartbeats 4000000 in
theorem specLine (n v : List UInt8) (hn : n.length ≤ 1000000) (hv : v.length ≤ 1000000) : SpecE Tryd.prog 17 [] [.agg [.str n, .str v]] [] (.str (fldLine n v)) := by
  refine specF0 (C := T_specLine) (wr := false) (D := fun _ => []) (U := fun _ => none) (res := [.str (fldLine n v)]) Tryd.Ty.mixed T_specLine_ok Tryd.func17 (nA := 1) (by decide +kernel) rfl (fun _ => rfl) ?_
  simp only [Tryd.f17, bodyOf, rlOf]
  rw [W_V]
  simp (config := {maxSteps := 2000000}) only [T_specLine, go_sem, reduceIte, Nat.reduceEqDiff, Nat.reduceAdd, Nat.reduceMul, Nat.reduceDiv, Nat.reduceMod, Nat.reduceSub, Nat.reduceBEq, Nat.reduceLT, Nat.reduceLeDiff, reduceCtorEq, Int.reduceNeg, Int.reduceEq, String.reduceEq, Int.reduceLT, Int.reduceLE, Int.reduceToNat, Int.reduceAdd, Int.reduceMul, Int.reduceSub]
  (try simp (config := {maxSteps := 2000000}) only [gimp, impB, isT, go_sem, reduceIte, Nat.reduceEqDiff, Nat.reduceAdd, Nat.reduceMul, Nat.reduceDiv, Nat.reduceMod, Nat.reduceSub, Nat.reduceBEq, Nat.reduceLT, Nat.reduceLeDiff, reduceCtorEq, Int.reduceNeg, Int.reduceEq, String.reduceEq, Int.reduceLT, Int.reduceLE, Int.reduceToNat, Int.reduceAdd, Int.reduceMul, Int.reduceSub])
  refine ⟨fun h => ⟨by omega, by simp [fldLine, h]⟩, fun h => ⟨by omega, by simp; omega, by simp [fldLine, h]⟩⟩
def tb_specLine : List Blk → List AV → Option (List Blk × AV × Prop)
  | [], [.agg [.str n, .str v]] => some ([], .str (fldLine n v), (n.length ≤ 1000000) ∧ (v.length ≤ 1000000))
  | _, _ => none
theorem tb_specLine_ok : ∀ E args E' res p, tb_specLine E args = some (E', res, p) → p → SpecE Tryd.prog 17 E args E' res := by
  intro E args E' res p h hp
  unfold tb_specLine at h
  split at h
  · simp only [Option.some.injEq, Prod.mk.injEq] at h
    obtain ⟨rfl, rfl, rfl⟩ := h
    exact (specLine _ _ hp.1 hp.2)
  · cases h

def T_specRight : Tbl := fun g E args => (addT (addT (addT nilT 38 Go.Proofs.Tryd.Oct.tb_specToken) 39 Go.Proofs.Tryd.Oct.tb_specValue) 40 Go.Proofs.Tryd.Oct.tb_specTrim) g E args
theorem T_specRight_ok : TblOK Tryd.prog T_specRight := (addT_ok (addT_ok (addT_ok nilT_ok (by decide +kernel) Go.Proofs.Tryd.Oct.tb_specToken_ok) (by decide +kernel) Go.Proofs.Tryd.Oct.tb_specValue_ok) (by decide +kernel) Go.Proofs.Tryd.Oct.tb_specTrim_ok)
set_option maxRecDepth 100000 in
set_option maxHeartbeats 4000000 in
theorem specRight (n v : List UInt8) (hv : v.length ≤ maxLen) : SpecE Tryd.prog 18 [] [.agg [.str n, .str v]] [] (.bool (fldRight n v)) := by
  refine specF0 (C := T_specRight) (wr := false) (D := fun _ => []) (U := fun _ => none) (res := [.bool (fldRight n v)]) Tryd.Ty.mixed T_specRight_ok Tryd.func18 (nA := 1) (by decide +kernel) rfl (fun _ => rfl) ?_
  simp only [Tryd.f18, bodyOf, rlOf]
  rw [W_V]
  simp (config := {maxSteps := 2000000}) only [T_specRight, Go.Proofs.Tryd.Oct.tb_specToken, Go.Proofs.Tryd.Oct.tb_specValue, Go.Proofs.Tryd.Oct.tb_specTrim, go_sem, reduceIte, Nat.reduceEqDiff, Nat.reduceAdd, Nat.reduceMul, Nat.reduceDiv, Nat.reduceMod, Nat.reduceSub, Nat.reduceBEq, Nat.reduceLT, Nat.reduceLeDiff, reduceCtorEq, Int.reduceNeg, Int.reduceEq, String.reduceEq, Int.reduceLT, Int.reduceLE, Int.reduceToNat, Int.reduceAdd, Int.reduceMul, Int.reduceSub]
  (try simp (config := {maxSteps := 2000000}) only [gimp, impB, isT, go_sem, reduceIte, Nat.reduceEqDiff, Nat.reduceAdd, Nat.reduceMul, Nat.reduceDiv, Nat.reduceMod, Nat.reduceSub, Nat.reduceBEq, Nat.reduceLT, Nat.reduceLeDiff, reduceCtorEq, Int.reduceNeg, Int.reduceEq, String.reduceEq, Int.reduceLT, Int.reduceLE, Int.reduceToNat, Int.reduceAdd, Int.reduceMul, Int.reduceSub])
  refine ⟨fun _ _ => hv, ?_⟩
  simp [fldRight, Bool.and_assoc]
def tb_specRight : List Blk → List AV → Option (List Blk × AV × Prop)
  | [], [.agg [.str n, .str v]] => some ([], .bool (fldRight n v), (v.length ≤ maxLen))
  | _, _ => none
theorem tb_specRight_ok : ∀ E args E' res p, tb_specRight E args = some (E', res, p) → p → SpecE Tryd.prog 18 E args E' res := by
  intro E args E' res p h hp
  unfold tb_specRight at h
  split at h
  · simp only [Option.some.injEq, Prod.mk.injEq] at h
    obtain ⟨rfl, rfl, rfl⟩ := h
    exact (specRight _ _ hp)
  · cases h
def T_specParseR : Tbl := fun g E args => (addT (addT (addT nilT 67 Go.Proofs.Tryd.Oct.tb_specTokenR) 68 Go.Proofs.Tryd.Oct.tb_specValueR) 45 Go.Proofs.Tryd.Oct.tb_specTrimR) g E args
theorem T_specParseR_ok : TblOK Tryd.prog T_specParseR := (addT_ok (addT_ok (addT_ok nilT_ok (by decide +kernel) Go.Proofs.Tryd.Oct.tb_specTokenR_ok) (by decide +kernel) Go.Proofs.Tryd.Oct.tb_specValueR_ok) (by decide +kernel) Go.Proofs.Tryd.Oct.tb_specTrimR_ok)
set_option maxRecDepth 100000 in
set_option maxHeartbeats 4000000 in
theorem specParseR (s : List UInt8) (hs : s.length ≤ 1000000) : SpecE Tryd.prog 46 [] [.str s] [] (.tuple [.agg [.str (fldName s), .str (fldValue s)], .int .i64 (fldErr s)]) := by
  refine specF0 (C := T_specParseR) (wr := false) (D := fun i => if i = 10 then [9] else []) (U := fun _ => none) (res := [.agg [.str (fldName s), .str (fldValue s)], .int .i64 (fldErr s)]) Tryd.Ty.mixed T_specParseR_ok Tryd.func46 (nA := 1) (by decide +kernel) rfl (fun _ => rfl) ?_
  simp only [Tryd.f46, bodyOf, rlOf]
  rw [W_V]
  simp (config := {maxSteps := 2000000}) only [T_specParseR, Go.Proofs.Tryd.Oct.tb_specTokenR, Go.Proofs.Tryd.Oct.tb_specValueR, Go.Proofs.Tryd.Oct.tb_specTrimR, go_sem, reduceIte, Nat.reduceEqDiff, Nat.reduceAdd, Nat.reduceMul, Nat.reduceDiv, Nat.reduceMod, Nat.reduceSub, Nat.reduceBEq, Nat.reduceLT, Nat.reduceLeDiff, reduceCtorEq, Int.reduceNeg, Int.reduceEq, String.reduceEq, Int.reduceLT, Int.reduceLE, Int.reduceToNat, Int.reduceAdd, Int.reduceMul, Int.reduceSub]
  (try simp (config := {maxSteps := 2000000}) only [gimp, impB, isT, go_sem, reduceIte, Nat.reduceEqDiff, Nat.reduceAdd, Nat.reduceMul, Nat.reduceDiv, Nat.reduceMod, Nat.reduceSub, Nat.reduceBEq, Nat.reduceLT, Nat.reduceLeDiff, reduceCtorEq, Int.reduceNeg, Int.reduceEq, String.reduceEq, Int.reduceLT, Int.reduceLE, Int.reduceToNat, Int.reduceAdd, Int.reduceMul, Int.reduceSub])
  refine VL_inv (X := Nat) (fun x => ⟨[(0, .str s), (2, .ptr 48 0 0 1), (3, .int .i64 0), (4, .int .i64 x)], [(48, .cells 2 false (.agg [.str [], .str []]) [.agg [.str [], .str []]])]⟩) (fun x => x ≤ s.length ∧ (s.take x).all (fun b => !decide (b = 58)) = true) (fun x => s.length - x) 0 ?_ ?_ ?_
  · simp only [go_sem, go_sem, reduceIte, Nat.reduceEqDiff, Nat.reduceAdd, Nat.reduceMul, Nat.reduceDiv, Nat.reduceMod, Nat.reduceSub, Nat.reduceBEq, Nat.reduceLT, Nat.reduceLeDiff, reduceCtorEq, Int.reduceNeg, Int.reduceEq, String.reduceEq, Int.reduceLT, Int.reduceLE, Int.reduceToNat, Int.reduceAdd, Int.reduceMul, Int.reduceSub]
    try rfl
  · exact ⟨Nat.zero_le _, by simp⟩
  rintro x ⟨hx, hn⟩
  simp (config := {maxSteps := 2000000}) only [T_specParseR, Go.Proofs.Tryd.Oct.tb_specTokenR, Go.Proofs.Tryd.Oct.tb_specValueR, Go.Proofs.Tryd.Oct.tb_specTrimR, go_sem, reduceIte, Nat.reduceEqDiff, Nat.reduceAdd, Nat.reduceMul, Nat.reduceDiv, Nat.reduceMod, Nat.reduceSub, Nat.reduceBEq, Nat.reduceLT, Nat.reduceLeDiff, reduceCtorEq, Int.reduceNeg, Int.reduceEq, String.reduceEq, Int.reduceLT, Int.reduceLE, Int.reduceToNat, Int.reduceAdd, Int.reduceMul, Int.reduceSub]
  (try simp (config := {maxSteps := 2000000}) only [gimp, impB, isT, go_sem, reduceIte, Nat.reduceEqDiff, Nat.reduceAdd, Nat.reduceMul, Nat.reduceDiv, Nat.reduceMod, Nat.reduceSub, Nat.reduceBEq, Nat.reduceLT, Nat.reduceLeDiff, reduceCtorEq, Int.reduceNeg, Int.reduceEq, String.reduceEq, Int.reduceLT, Int.reduceLE, Int.reduceToNat, Int.reduceAdd, Int.reduceMul, Int.reduceSub])
  refine ⟨fun _ => by omega, fun h1 h2 => ⟨by omega, x + 1, by omega, ⟨by omega, all_next (by omega) hn (by simp only [decide_eq_false h2, Bool.not_false])⟩, by omega⟩, fun h => ?_⟩
  have e := upTo_at hx hn (fun hl => by simpa [show (x : Int) < s.length by omega] using h)
  subst e
  refine ⟨fun h1 => ?_, fun h1 => ⟨by omega, by simp; omega, fun h2 => ?_, fun h2 => ⟨by omega, by omega, by simp; omega, fun h3 => ?_, fun h3 => ⟨by omega, by omega, by omega, ?_, ?_⟩⟩⟩⟩
  · have h1 : ¬ upTo 58 s < s.length := by omega
    simp [fldName, fldValue, fldErr, h1]
  · have h1 : upTo 58 s < s.length := by omega
    simp [fldName, fldValue, fldErr, h1, h2]
  · have h1 : upTo 58 s < s.length := by omega
    simp [fldName, fldValue, fldErr, h1, h2, h3]
  · show _ ≤ 9223372036854775807
    simp; omega
  · have h1 : upTo 58 s < s.length := by omega
    simp [fldName, fldValue, fldErr, h1, h2, h3]
def tb_specParseR : List Blk → List AV → Option (List Blk × AV × Prop)
  | [], [.str s] => some ([], .tuple [.agg [.str (fldName s), .str (fldValue s)], .int .i64 (fldErr s)], (s.length ≤ 1000000))
  | _, _ => none
theorem tb_specParseR_ok : ∀ E args E' res p, tb_specParseR E args = some (E', res, p) → p → SpecE Tryd.prog 46 E args E' res := by
  intro E args E' res p h hp
  unfold tb_specParseR at h
  split at h
  · simp only [Option.some.injEq, Prod.mk.injEq] at h
    obtain ⟨rfl, rfl, rfl⟩ := h
    exact (specParseR _ hp)
  · cases h


def T_specLives : Tbl := fun g E args => (addT (addT nilT 16 Go.Proofs.Tryd.Fld.tb_specParse) 17 Go.Proofs.Tryd.Fld.tb_specLine) g E args
theorem T_specLives_ok : TblOK Tryd.prog T_specLives := (addT_ok (addT_ok nilT_ok (by decide +kernel) Go.Proofs.Tryd.Fld.tb_specParse_ok) (by decide +kernel) Go.Proofs.Tryd.Fld.tb_specLine_ok)
set_option maxRecDepth 100000 in
set_option maxHeartbeats 4000000 in
theorem specLives : SpecE Tryd.prog 15 [] [] [] (.bool true) := by
  refine specF0 (C := T_specLives) (wr := false) (D := fun _ => []) (U := fun _ => none) (res := [.bool true]) Tryd.Ty.mixed T_specLives_ok Tryd.func15 (nA := 0) (by decide +kernel) rfl (fun _ => rfl) ?_
  simp only [Tryd.f15, bodyOf, rlOf]
  rw [W_V]
  simp (config := {maxSteps := 2000000}) only [T_specLives, Go.Proofs.Tryd.Fld.tb_specParse, Go.Proofs.Tryd.Fld.tb_specLine, go_sem, reduceIte, Nat.reduceEqDiff, Nat.reduceAdd, Nat.reduceMul, Nat.reduceDiv, Nat.reduceMod, Nat.reduceSub, Nat.reduceBEq, Nat.reduceLT, Nat.reduceLeDiff, reduceCtorEq, Int.reduceNeg, Int.reduceEq, String.reduceEq, Int.reduceLT, Int.reduceLE, Int.reduceToNat, Int.reduceAdd, Int.reduceMul, Int.reduceSub]
  (try simp (config := {maxSteps := 2000000}) only [gimp, impB, isT, go_sem, reduceIte, Nat.reduceEqDiff, Nat.reduceAdd, Nat.reduceMul, Nat.reduceDiv, Nat.reduceMod, Nat.reduceSub, Nat.reduceBEq, Nat.reduceLT, Nat.reduceLeDiff, reduceCtorEq, Int.reduceNeg, Int.reduceEq, String.reduceEq, Int.reduceLT, Int.reduceLE, Int.reduceToNat, Int.reduceAdd, Int.reduceMul, Int.reduceSub])
  decide +kernel
def tb_specLives : List Blk → List AV → Option (List Blk × AV × Prop)
  | [], [] => some ([], .bool true, True)
  | _, _ => none
theorem tb_specLives_ok : ∀ E args E' res p, tb_specLives E args = some (E', res, p) → p → SpecE Tryd.prog 15 E args E' res := by
  intro E args E' res p h hp
  unfold tb_specLives at h
  split at h
  · simp only [Option.some.injEq, Prod.mk.injEq] at h
    obtain ⟨rfl, rfl, rfl⟩ := h
    exact specLives
  · cases h

end Go.Proofs.Tryd.Fld
