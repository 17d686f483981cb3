/- field: the walks. Condition: texts are no longer than a machine holds. -/
import Derived.Test.YtaedogbpcammbaaFldM
import Derived.Test.YtaedogbpcammbaaLib
import Derived.Test.YtaedogbpcammbaaOctB
set_option linter.unusedVariables false
set_option linter.unusedSimpArgs false
namespace Go.Proofs.Try.Fld
open Go Go.Abs Go.Proofs Go.Mdl

def T_specParse : Tbl := fun g E args => (addT (addT (addT (addT nilT 48 Go.Proofs.Try.Lib.tb_specCut) 49 Go.Proofs.Try.Oct.tb_specToken) 50 Go.Proofs.Try.Oct.tb_specValue) 51 Go.Proofs.Try.Oct.tb_specTrim) g E args
theorem T_specParse_ok : TblOK Try.prog T_specParse := (addT_ok (addT_ok (addT_ok (addT_ok nilT_ok (by decide +kernel) Go.Proofs.Try.Lib.tb_specCut_ok) (by decide +kernel) Go.Proofs.Try.Oct.tb_specToken_ok) (by decide +kernel) Go.Proofs.Try.Oct.tb_specValue_ok) (by decide +kernel) Go.Proofs.Try.Oct.tb_specTrim_ok)
set_option maxRecDepth 100000 in
set_option maxHeartbeats 4000000 in
theorem specParse (s : List UInt8) (hs : s.length ≤ maxLen) : SpecE Try.prog 14 [] [.str s] [] (.tuple [.agg [.str (fldName s), .str (fldValue s)], .int .i64 (fldErr s)]) := by
  refine specF0 (C := T_specParse) (wr := false) (D := fun _ => []) (U := fun _ => none) (res := [.agg [.str (fldName s), .str (fldValue s)], .int .i64 (fldErr s)]) Try.Ty.mixed T_specParse_ok Try.func14 (nA := 1) (by decide +kernel) rfl (fun _ => rfl) ?_
  simp only [Try.f14, bodyOf, rlOf]
  rw [W_V]
  simp (config := {maxSteps := 2000000}) only [T_specParse, Go.Proofs.Try.Lib.tb_specCut, Go.Proofs.Try.Oct.tb_specToken, Go.Proofs.Try.Oct.tb_specValue, Go.Proofs.Try.Oct.tb_specTrim, go_sem, go_sem, reduceIte, Nat.reduceEqDiff, Nat.reduceAdd, Nat.reduceMul, Nat.reduceSub, Nat.reduceBEq, Nat.reduceLT, Nat.reduceLeDiff, reduceCtorEq, Int.reduceNeg, Int.reduceEq, String.reduceEq, Int.reduceLT, Int.reduceLE, Int.reduceToNat, Int.reduceAdd, Int.reduceMul, Int.reduceSub, Try.Ty.g1, Try.underlying1, Try.underlying2, Try.Ty.s2, Try.Ty.b2, Try.Ty.a2, Try.Ty.z2, Try.underlying3, Try.Ty.s3, Try.Ty.b3, Try.Ty.a3, Try.Ty.z3, Try.underlying4, Try.Ty.s4, Try.Ty.b4, Try.Ty.a4, Try.Ty.z4, Try.underlying5, Try.Ty.s5, Try.Ty.b5, Try.Ty.a5, Try.Ty.z5, Try.underlying6, Try.Ty.s6, Try.Ty.b6, Try.Ty.a6, Try.Ty.z6, Try.underlying7, Try.Ty.s7, Try.Ty.b7, Try.Ty.a7, Try.Ty.g7, Try.Ty.h7, Try.Ty.z7, Try.underlying9, Try.Ty.s9, Try.Ty.b9, Try.Ty.a9, Try.Ty.z9, Try.underlying12, Try.Ty.s12, Try.Ty.b12, Try.Ty.a12, Try.Ty.z12, Try.underlying13, Try.Ty.s13, Try.Ty.b13, Try.Ty.a13, Try.Ty.z13, Try.Ty.g15, Try.underlying15, Try.Ty.s15, Try.Ty.b15, Try.Ty.a15, Try.Ty.z15, Try.Ty.g17, Try.underlying17, Try.Ty.s17, Try.Ty.b17, Try.Ty.a17, Try.Ty.z17, Try.underlying19, Try.Ty.s19, Try.Ty.b19, Try.Ty.a19, Try.Ty.z19, Try.underlying22, Try.Ty.s22, Try.Ty.b22, Try.Ty.a22, Try.Ty.g22, Try.Ty.h22, Try.Ty.z22, Try.underlying23, Try.Ty.s23, Try.Ty.b23, Try.Ty.a23, Try.Ty.g23, Try.Ty.h23, Try.Ty.z23, Try.underlying24, Try.Ty.s24, Try.Ty.b24, Try.Ty.a24, Try.Ty.z24, Try.Ty.g26, Try.underlying26, Try.Ty.g39, Try.underlying39, Try.Ty.g46, Try.underlying46, Try.Ty.g49, Try.underlying49, Try.Ty.g50, Try.underlying50, Try.Ty.g51, Try.underlying51, Try.Ty.g61, Try.underlying61, Try.Ty.g110, Try.underlying110, Try.Ty.s110, Try.Ty.b110, Try.Ty.a110, Try.Ty.z110, Try.underlying119, Try.Ty.s119, Try.Ty.b119, Try.Ty.a119, Try.Ty.z119, Try.underlying126, Try.Ty.s126, Try.Ty.b126, Try.Ty.a126, Try.Ty.z126, Try.underlying130, Try.Ty.s130, Try.Ty.b130, Try.Ty.a130, Try.Ty.z130, Try.underlying131, Try.Ty.s131, Try.Ty.b131, Try.Ty.a131, Try.Ty.z131, Try.Ty.g132, Try.underlying132, Try.underlying133, Try.Ty.s133, Try.Ty.b133, Try.Ty.a133, Try.Ty.z133, Try.underlying134, Try.Ty.s134, Try.Ty.b134, Try.Ty.a134, Try.Ty.z134, Try.underlying136, Try.Ty.s136, Try.Ty.b136, Try.Ty.a136, Try.Ty.z136]
  (try simp (config := {maxSteps := 2000000}) only [gimp, impB, isT, go_sem, reduceIte, Nat.reduceEqDiff, Nat.reduceAdd, Nat.reduceMul, Nat.reduceSub, Nat.reduceBEq, Nat.reduceLT, Nat.reduceLeDiff, reduceCtorEq, Int.reduceNeg, Int.reduceEq, String.reduceEq, Int.reduceLT, Int.reduceLE, Int.reduceToNat, Int.reduceAdd, Int.reduceMul, Int.reduceSub])
  refine ⟨hs, fun h1 => ?_, fun h1 => ⟨fun h2 => ?_, fun h2 => ⟨fun h3 => ?_, fun h3 => ?_⟩⟩⟩
  · simp [fldName, fldValue, fldErr, h1]
  · simp [fldName, fldValue, fldErr, h1, h2]
  · simp [fldName, fldValue, fldErr, h1, h2, h3]
  · refine ⟨?_, ?_⟩
    · have : s.length ≤ 9223372036854775807 := hs
      show _ ≤ 9223372036854775807
      simp; omega
    · simp [fldName, fldValue, fldErr, h1, h2, h3]
def tb_specParse : List Blk → List AV → Option (List Blk × AV × Prop)
  | [], [.str s] => some ([], .tuple [.agg [.str (fldName s), .str (fldValue s)], .int .i64 (fldErr s)], (s.length ≤ maxLen))
  | _, _ => none
theorem tb_specParse_ok : ∀ E args E' res p, tb_specParse E args = some (E', res, p) → p → SpecE Try.prog 14 E args E' res := by
  intro E args E' res p h hp
  unfold tb_specParse at h
  split at h
  · simp only [Option.some.injEq, Prod.mk.injEq] at h
    obtain ⟨rfl, rfl, rfl⟩ := h
    exact (specParse _ hp)
  · cases h

def T_specLine : Tbl := fun g E args => nilT g E args
theorem T_specLine_ok : TblOK Try.prog T_specLine := nilT_ok
set_option maxRecDepth 100000 in
set_option maxHeartbeats 4000000 in
theorem specLine (n v : List UInt8) (hn : n.length ≤ 1000000) (hv : v.length ≤ 1000000) : SpecE Try.prog 16 [] [.agg [.str n, .str v]] [] (.str (fldLine n v)) := by
  refine specF0 (C := T_specLine) (wr := false) (D := fun _ => []) (U := fun _ => none) (res := [.str (fldLine n v)]) Try.Ty.mixed T_specLine_ok Try.func16 (nA := 1) (by decide +kernel) rfl (fun _ => rfl) ?_
  simp only [Try.f16, bodyOf, rlOf]
  rw [W_V]
  simp (config := {maxSteps := 2000000}) only [T_specLine, go_sem, go_sem, reduceIte, Nat.reduceEqDiff, Nat.reduceAdd, Nat.reduceMul, Nat.reduceSub, Nat.reduceBEq, Nat.reduceLT, Nat.reduceLeDiff, reduceCtorEq, Int.reduceNeg, Int.reduceEq, String.reduceEq, Int.reduceLT, Int.reduceLE, Int.reduceToNat, Int.reduceAdd, Int.reduceMul, Int.reduceSub, Try.Ty.g1, Try.underlying1, Try.underlying2, Try.Ty.s2, Try.Ty.b2, Try.Ty.a2, Try.Ty.z2, Try.underlying4, Try.Ty.s4, Try.Ty.b4, Try.Ty.a4, Try.Ty.z4, Try.underlying9, Try.Ty.s9, Try.Ty.b9, Try.Ty.a9, Try.Ty.z9, Try.underlying23, Try.Ty.s23, Try.Ty.b23, Try.Ty.a23, Try.Ty.g23, Try.Ty.h23, Try.Ty.z23, Try.Ty.g27, Try.underlying27, Try.Ty.g31, Try.underlying31, Try.Ty.s31, Try.Ty.b31, Try.Ty.a31, Try.Ty.z31]
  (try simp (config := {maxSteps := 2000000}) only [gimp, impB, isT, go_sem, reduceIte, Nat.reduceEqDiff, Nat.reduceAdd, Nat.reduceMul, Nat.reduceSub, Nat.reduceBEq, Nat.reduceLT, Nat.reduceLeDiff, reduceCtorEq, Int.reduceNeg, Int.reduceEq, String.reduceEq, Int.reduceLT, Int.reduceLE, Int.reduceToNat, Int.reduceAdd, Int.reduceMul, Int.reduceSub])
  refine ⟨fun h => ⟨by omega, by simp [fldLine, h]⟩, fun h => ⟨by omega, by simp; omega, by simp [fldLine, h]⟩⟩
def tb_specLine : List Blk → List AV → Option (List Blk × AV × Prop)
  | [], [.agg [.str n, .str v]] => some ([], .str (fldLine n v), (n.length ≤ 1000000) ∧ (v.length ≤ 1000000))
  | _, _ => none
theorem tb_specLine_ok : ∀ E args E' res p, tb_specLine E args = some (E', res, p) → p → SpecE Try.prog 16 E args E' res := by
  intro E args E' res p h hp
  unfold tb_specLine at h
  split at h
  · simp only [Option.some.injEq, Prod.mk.injEq] at h
    obtain ⟨rfl, rfl, rfl⟩ := h
    exact (specLine _ _ hp.1 hp.2)
  · cases h

def T_specRight : Tbl := fun g E args => (addT (addT (addT nilT 49 Go.Proofs.Try.Oct.tb_specToken) 50 Go.Proofs.Try.Oct.tb_specValue) 51 Go.Proofs.Try.Oct.tb_specTrim) g E args
theorem T_specRight_ok : TblOK Try.prog T_specRight := (addT_ok (addT_ok (addT_ok nilT_ok (by decide +kernel) Go.Proofs.Try.Oct.tb_specToken_ok) (by decide +kernel) Go.Proofs.Try.Oct.tb_specValue_ok) (by decide +kernel) Go.Proofs.Try.Oct.tb_specTrim_ok)
set_option maxRecDepth 100000 in
set_option maxHeartbeats 4000000 in
theorem specRight (n v : List UInt8) (hv : v.length ≤ maxLen) : SpecE Try.prog 18 [] [.agg [.str n, .str v]] [] (.bool (fldRight n v)) := by
  refine specF0 (C := T_specRight) (wr := false) (D := fun _ => []) (U := fun _ => none) (res := [.bool (fldRight n v)]) Try.Ty.mixed T_specRight_ok Try.func18 (nA := 1) (by decide +kernel) rfl (fun _ => rfl) ?_
  simp only [Try.f18, bodyOf, rlOf]
  rw [W_V]
  simp (config := {maxSteps := 2000000}) only [T_specRight, Go.Proofs.Try.Oct.tb_specToken, Go.Proofs.Try.Oct.tb_specValue, Go.Proofs.Try.Oct.tb_specTrim, go_sem, go_sem, reduceIte, Nat.reduceEqDiff, Nat.reduceAdd, Nat.reduceMul, Nat.reduceSub, Nat.reduceBEq, Nat.reduceLT, Nat.reduceLeDiff, reduceCtorEq, Int.reduceNeg, Int.reduceEq, String.reduceEq, Int.reduceLT, Int.reduceLE, Int.reduceToNat, Int.reduceAdd, Int.reduceMul, Int.reduceSub, Try.Ty.g1, Try.underlying1, Try.underlying2, Try.Ty.s2, Try.Ty.b2, Try.Ty.a2, Try.Ty.z2, Try.underlying4, Try.Ty.s4, Try.Ty.b4, Try.Ty.a4, Try.Ty.z4, Try.underlying9, Try.Ty.s9, Try.Ty.b9, Try.Ty.a9, Try.Ty.z9, Try.underlying23, Try.Ty.s23, Try.Ty.b23, Try.Ty.a23, Try.Ty.g23, Try.Ty.h23, Try.Ty.z23, Try.Ty.g28, Try.underlying28, Try.Ty.g35, Try.underlying35, Try.Ty.g36, Try.underlying36, Try.Ty.g39, Try.underlying39, Try.Ty.g46, Try.underlying46, Try.Ty.g49, Try.underlying49, Try.Ty.g50, Try.underlying50, Try.Ty.g51, Try.underlying51]
  (try simp (config := {maxSteps := 2000000}) only [gimp, impB, isT, go_sem, reduceIte, Nat.reduceEqDiff, Nat.reduceAdd, Nat.reduceMul, Nat.reduceSub, Nat.reduceBEq, Nat.reduceLT, Nat.reduceLeDiff, reduceCtorEq, Int.reduceNeg, Int.reduceEq, String.reduceEq, Int.reduceLT, Int.reduceLE, Int.reduceToNat, Int.reduceAdd, Int.reduceMul, Int.reduceSub])
  refine ⟨fun _ _ => hv, ?_⟩
  simp [fldRight, Bool.and_assoc]
def tb_specRight : List Blk → List AV → Option (List Blk × AV × Prop)
  | [], [.agg [.str n, .str v]] => some ([], .bool (fldRight n v), (v.length ≤ maxLen))
  | _, _ => none
theorem tb_specRight_ok : ∀ E args E' res p, tb_specRight E args = some (E', res, p) → p → SpecE Try.prog 18 E args E' res := by
  intro E args E' res p h hp
  unfold tb_specRight at h
  split at h
  · simp only [Option.some.injEq, Prod.mk.injEq] at h
    obtain ⟨rfl, rfl, rfl⟩ := h
    exact (specRight _ _ hp)
  · cases h
def T_specParseR : Tbl := fun g E args => (addT (addT (addT nilT 52 Go.Proofs.Try.Oct.tb_specTokenR) 53 Go.Proofs.Try.Oct.tb_specValueR) 54 Go.Proofs.Try.Oct.tb_specTrimR) g E args
theorem T_specParseR_ok : TblOK Try.prog T_specParseR := (addT_ok (addT_ok (addT_ok nilT_ok (by decide +kernel) Go.Proofs.Try.Oct.tb_specTokenR_ok) (by decide +kernel) Go.Proofs.Try.Oct.tb_specValueR_ok) (by decide +kernel) Go.Proofs.Try.Oct.tb_specTrimR_ok)
set_option maxRecDepth 100000 in
set_option maxHeartbeats 4000000 in
theorem specParseR (s : List UInt8) (hs : s.length ≤ 1000000) : SpecE Try.prog 15 [] [.str s] [] (.tuple [.agg [.str (fldName s), .str (fldValue s)], .int .i64 (fldErr s)]) := by
  refine specF0 (C := T_specParseR) (wr := false) (D := fun i => if i = 10 then [9] else []) (U := fun _ => none) (res := [.agg [.str (fldName s), .str (fldValue s)], .int .i64 (fldErr s)]) Try.Ty.mixed T_specParseR_ok Try.func15 (nA := 1) (by decide +kernel) rfl (fun _ => rfl) ?_
  simp only [Try.f15, bodyOf, rlOf]
  rw [W_V]
  simp (config := {maxSteps := 2000000}) only [T_specParseR, Go.Proofs.Try.Oct.tb_specTokenR, Go.Proofs.Try.Oct.tb_specValueR, Go.Proofs.Try.Oct.tb_specTrimR, go_sem, go_sem, reduceIte, Nat.reduceEqDiff, Nat.reduceAdd, Nat.reduceMul, Nat.reduceSub, Nat.reduceBEq, Nat.reduceLT, Nat.reduceLeDiff, reduceCtorEq, Int.reduceNeg, Int.reduceEq, String.reduceEq, Int.reduceLT, Int.reduceLE, Int.reduceToNat, Int.reduceAdd, Int.reduceMul, Int.reduceSub, Try.Ty.g1, Try.underlying1, Try.underlying2, Try.Ty.s2, Try.Ty.b2, Try.Ty.a2, Try.Ty.z2, Try.underlying3, Try.Ty.s3, Try.Ty.b3, Try.Ty.a3, Try.Ty.z3, Try.underlying4, Try.Ty.s4, Try.Ty.b4, Try.Ty.a4, Try.Ty.z4, Try.underlying5, Try.Ty.s5, Try.Ty.b5, Try.Ty.a5, Try.Ty.z5, Try.underlying6, Try.Ty.s6, Try.Ty.b6, Try.Ty.a6, Try.Ty.z6, Try.underlying7, Try.Ty.s7, Try.Ty.b7, Try.Ty.a7, Try.Ty.g7, Try.Ty.h7, Try.Ty.z7, Try.underlying9, Try.Ty.s9, Try.Ty.b9, Try.Ty.a9, Try.Ty.z9, Try.underlying12, Try.Ty.s12, Try.Ty.b12, Try.Ty.a12, Try.Ty.z12, Try.Ty.g17, Try.underlying17, Try.Ty.s17, Try.Ty.b17, Try.Ty.a17, Try.Ty.z17, Try.underlying18, Try.Ty.s18, Try.Ty.b18, Try.Ty.a18, Try.Ty.z18, Try.underlying21, Try.Ty.s21, Try.Ty.b21, Try.Ty.a21, Try.Ty.z21, Try.underlying23, Try.Ty.s23, Try.Ty.b23, Try.Ty.a23, Try.Ty.g23, Try.Ty.h23, Try.Ty.z23, Try.underlying24, Try.Ty.s24, Try.Ty.b24, Try.Ty.a24, Try.Ty.z24, Try.Ty.g26, Try.underlying26, Try.Ty.g39, Try.underlying39, Try.Ty.g46, Try.underlying46, Try.Ty.g52, Try.underlying52, Try.Ty.g53, Try.underlying53, Try.Ty.g54, Try.underlying54, Try.Ty.g58, Try.underlying58, Try.Ty.g110, Try.underlying110, Try.Ty.s110, Try.Ty.b110, Try.Ty.a110, Try.Ty.z110, Try.underlying119, Try.Ty.s119, Try.Ty.b119, Try.Ty.a119, Try.Ty.z119, Try.underlying130, Try.Ty.s130, Try.Ty.b130, Try.Ty.a130, Try.Ty.z130, Try.underlying131, Try.Ty.s131, Try.Ty.b131, Try.Ty.a131, Try.Ty.z131, Try.Ty.g132, Try.underlying132, Try.underlying133, Try.Ty.s133, Try.Ty.b133, Try.Ty.a133, Try.Ty.z133, Try.underlying134, Try.Ty.s134, Try.Ty.b134, Try.Ty.a134, Try.Ty.z134, Try.underlying136, Try.Ty.s136, Try.Ty.b136, Try.Ty.a136, Try.Ty.z136]
  (try simp (config := {maxSteps := 2000000}) only [gimp, impB, isT, go_sem, reduceIte, Nat.reduceEqDiff, Nat.reduceAdd, Nat.reduceMul, Nat.reduceSub, Nat.reduceBEq, Nat.reduceLT, Nat.reduceLeDiff, reduceCtorEq, Int.reduceNeg, Int.reduceEq, String.reduceEq, Int.reduceLT, Int.reduceLE, Int.reduceToNat, Int.reduceAdd, Int.reduceMul, Int.reduceSub])
  refine VL_inv (X := Nat) (fun x => ⟨[(0, .str s), (2, .ptr 48 0 0 1), (3, .int .i64 0), (4, .int .i64 x)], [(48, .cells 2 false (.agg [.str [], .str []]) [.agg [.str [], .str []]])]⟩) (fun x => x ≤ s.length ∧ (s.take x).all (fun b => !decide (b = 58)) = true) (fun x => s.length - x) 0 ?_ ?_ ?_
  · simp only [go_sem, go_sem, reduceIte, Nat.reduceEqDiff, Nat.reduceAdd, Nat.reduceMul, Nat.reduceSub, Nat.reduceBEq, Nat.reduceLT, Nat.reduceLeDiff, reduceCtorEq, Int.reduceNeg, Int.reduceEq, String.reduceEq, Int.reduceLT, Int.reduceLE, Int.reduceToNat, Int.reduceAdd, Int.reduceMul, Int.reduceSub]
    try rfl
  · exact ⟨Nat.zero_le _, by simp⟩
  rintro x ⟨hx, hn⟩
  simp (config := {maxSteps := 2000000}) only [T_specParseR, Go.Proofs.Try.Oct.tb_specTokenR, Go.Proofs.Try.Oct.tb_specValueR, Go.Proofs.Try.Oct.tb_specTrimR, go_sem, go_sem, reduceIte, Nat.reduceEqDiff, Nat.reduceAdd, Nat.reduceMul, Nat.reduceSub, Nat.reduceBEq, Nat.reduceLT, Nat.reduceLeDiff, reduceCtorEq, Int.reduceNeg, Int.reduceEq, String.reduceEq, Int.reduceLT, Int.reduceLE, Int.reduceToNat, Int.reduceAdd, Int.reduceMul, Int.reduceSub, Try.Ty.g1, Try.underlying1, Try.underlying2, Try.Ty.s2, Try.Ty.b2, Try.Ty.a2, Try.Ty.z2, Try.underlying3, Try.Ty.s3, Try.Ty.b3, Try.Ty.a3, Try.Ty.z3, Try.underlying4, Try.Ty.s4, Try.Ty.b4, Try.Ty.a4, Try.Ty.z4, Try.underlying5, Try.Ty.s5, Try.Ty.b5, Try.Ty.a5, Try.Ty.z5, Try.underlying6, Try.Ty.s6, Try.Ty.b6, Try.Ty.a6, Try.Ty.z6, Try.underlying7, Try.Ty.s7, Try.Ty.b7, Try.Ty.a7, Try.Ty.g7, Try.Ty.h7, Try.Ty.z7, Try.underlying9, Try.Ty.s9, Try.Ty.b9, Try.Ty.a9, Try.Ty.z9, Try.underlying12, Try.Ty.s12, Try.Ty.b12, Try.Ty.a12, Try.Ty.z12, Try.Ty.g17, Try.underlying17, Try.Ty.s17, Try.Ty.b17, Try.Ty.a17, Try.Ty.z17, Try.underlying18, Try.Ty.s18, Try.Ty.b18, Try.Ty.a18, Try.Ty.z18, Try.underlying21, Try.Ty.s21, Try.Ty.b21, Try.Ty.a21, Try.Ty.z21, Try.underlying23, Try.Ty.s23, Try.Ty.b23, Try.Ty.a23, Try.Ty.g23, Try.Ty.h23, Try.Ty.z23, Try.underlying24, Try.Ty.s24, Try.Ty.b24, Try.Ty.a24, Try.Ty.z24, Try.Ty.g26, Try.underlying26, Try.Ty.g39, Try.underlying39, Try.Ty.g46, Try.underlying46, Try.Ty.g52, Try.underlying52, Try.Ty.g53, Try.underlying53, Try.Ty.g54, Try.underlying54, Try.Ty.g58, Try.underlying58, Try.Ty.g110, Try.underlying110, Try.Ty.s110, Try.Ty.b110, Try.Ty.a110, Try.Ty.z110, Try.underlying119, Try.Ty.s119, Try.Ty.b119, Try.Ty.a119, Try.Ty.z119, Try.underlying130, Try.Ty.s130, Try.Ty.b130, Try.Ty.a130, Try.Ty.z130, Try.underlying131, Try.Ty.s131, Try.Ty.b131, Try.Ty.a131, Try.Ty.z131, Try.Ty.g132, Try.underlying132, Try.underlying133, Try.Ty.s133, Try.Ty.b133, Try.Ty.a133, Try.Ty.z133, Try.underlying134, Try.Ty.s134, Try.Ty.b134, Try.Ty.a134, Try.Ty.z134, Try.underlying136, Try.Ty.s136, Try.Ty.b136, Try.Ty.a136, Try.Ty.z136]
  (try simp (config := {maxSteps := 2000000}) only [gimp, impB, isT, go_sem, reduceIte, Nat.reduceEqDiff, Nat.reduceAdd, Nat.reduceMul, Nat.reduceSub, Nat.reduceBEq, Nat.reduceLT, Nat.reduceLeDiff, reduceCtorEq, Int.reduceNeg, Int.reduceEq, String.reduceEq, Int.reduceLT, Int.reduceLE, Int.reduceToNat, Int.reduceAdd, Int.reduceMul, Int.reduceSub])
  refine ⟨fun _ => by omega, fun h1 h2 => ⟨by omega, x + 1, by omega, ⟨by omega, all_next (by omega) hn (by simp only [decide_eq_false h2, Bool.not_false])⟩, by omega⟩, fun h => ?_⟩
  have e := upTo_at hx hn (fun hl => by simpa [show (x : Int) < s.length by omega] using h)
  subst e
  refine ⟨fun h1 => ?_, fun h1 => ⟨by omega, by simp; omega, fun h2 => ?_, fun h2 => ⟨by omega, by omega, by simp; omega, fun h3 => ?_, fun h3 => ⟨by omega, by omega, by omega, ?_, ?_⟩⟩⟩⟩
  · have h1 : ¬ upTo 58 s < s.length := by omega
    simp [fldName, fldValue, fldErr, h1]
  · have h1 : upTo 58 s < s.length := by omega
    simp [fldName, fldValue, fldErr, h1, h2]
  · have h1 : upTo 58 s < s.length := by omega
    simp [fldName, fldValue, fldErr, h1, h2, h3]
  · show _ ≤ 9223372036854775807
    simp; omega
  · have h1 : upTo 58 s < s.length := by omega
    simp [fldName, fldValue, fldErr, h1, h2, h3]
def tb_specParseR : List Blk → List AV → Option (List Blk × AV × Prop)
  | [], [.str s] => some ([], .tuple [.agg [.str (fldName s), .str (fldValue s)], .int .i64 (fldErr s)], (s.length ≤ 1000000))
  | _, _ => none
theorem tb_specParseR_ok : ∀ E args E' res p, tb_specParseR E args = some (E', res, p) → p → SpecE Try.prog 15 E args E' res := by
  intro E args E' res p h hp
  unfold tb_specParseR at h
  split at h
  · simp only [Option.some.injEq, Prod.mk.injEq] at h
    obtain ⟨rfl, rfl, rfl⟩ := h
    exact (specParseR _ hp)
  · cases h

def T_specLineR : Tbl := fun g E args => nilT g E args
theorem T_specLineR_ok : TblOK Try.prog T_specLineR := nilT_ok
set_option maxRecDepth 100000 in
set_option maxHeartbeats 4000000 in
theorem specLineR (n v : List UInt8) (hn : n.length ≤ 1000000) (hv : v.length ≤ 1000000) : SpecE Try.prog 17 [] [.agg [.str n, .str v]] [] (.str (fldLine n v)) := by
  refine specF0 (C := T_specLineR) (wr := false) (D := fun _ => []) (U := fun _ => none) (res := [.str (fldLine n v)]) Try.Ty.mixed T_specLineR_ok Try.func17 (nA := 1) (by decide +kernel) rfl (fun _ => rfl) ?_
  simp only [Try.f17, bodyOf, rlOf]
  rw [W_V]
  simp (config := {maxSteps := 2000000}) only [T_specLineR, go_sem, go_sem, reduceIte, Nat.reduceEqDiff, Nat.reduceAdd, Nat.reduceMul, Nat.reduceSub, Nat.reduceBEq, Nat.reduceLT, Nat.reduceLeDiff, reduceCtorEq, Int.reduceNeg, Int.reduceEq, String.reduceEq, Int.reduceLT, Int.reduceLE, Int.reduceToNat, Int.reduceAdd, Int.reduceMul, Int.reduceSub, Try.Ty.g1, Try.underlying1, Try.underlying2, Try.Ty.s2, Try.Ty.b2, Try.Ty.a2, Try.Ty.z2, Try.underlying3, Try.Ty.s3, Try.Ty.b3, Try.Ty.a3, Try.Ty.z3, Try.underlying4, Try.Ty.s4, Try.Ty.b4, Try.Ty.a4, Try.Ty.z4, Try.underlying9, Try.Ty.s9, Try.Ty.b9, Try.Ty.a9, Try.Ty.z9, Try.underlying23, Try.Ty.s23, Try.Ty.b23, Try.Ty.a23, Try.Ty.g23, Try.Ty.h23, Try.Ty.z23, Try.Ty.g27, Try.underlying27, Try.Ty.g34, Try.underlying34]
  (try simp (config := {maxSteps := 2000000}) only [gimp, impB, isT, go_sem, reduceIte, Nat.reduceEqDiff, Nat.reduceAdd, Nat.reduceMul, Nat.reduceSub, Nat.reduceBEq, Nat.reduceLT, Nat.reduceLeDiff, reduceCtorEq, Int.reduceNeg, Int.reduceEq, String.reduceEq, Int.reduceLT, Int.reduceLE, Int.reduceToNat, Int.reduceAdd, Int.reduceMul, Int.reduceSub])
  refine ⟨by omega, fun h => ⟨by simp; omega, by simp; omega, by simp [fldLine, h]⟩, fun h => by simp [fldLine, h]⟩
def tb_specLineR : List Blk → List AV → Option (List Blk × AV × Prop)
  | [], [.agg [.str n, .str v]] => some ([], .str (fldLine n v), (n.length ≤ 1000000) ∧ (v.length ≤ 1000000))
  | _, _ => none
theorem tb_specLineR_ok : ∀ E args E' res p, tb_specLineR E args = some (E', res, p) → p → SpecE Try.prog 17 E args E' res := by
  intro E args E' res p h hp
  unfold tb_specLineR at h
  split at h
  · simp only [Option.some.injEq, Prod.mk.injEq] at h
    obtain ⟨rfl, rfl, rfl⟩ := h
    exact (specLineR _ _ hp.1 hp.2)
  · cases h

def T_specRightR : Tbl := fun g E args => (addT (addT (addT nilT 52 Go.Proofs.Try.Oct.tb_specTokenR) 53 Go.Proofs.Try.Oct.tb_specValueR) 54 Go.Proofs.Try.Oct.tb_specTrimR) g E args
theorem T_specRightR_ok : TblOK Try.prog T_specRightR := (addT_ok (addT_ok (addT_ok nilT_ok (by decide +kernel) Go.Proofs.Try.Oct.tb_specTokenR_ok) (by decide +kernel) Go.Proofs.Try.Oct.tb_specValueR_ok) (by decide +kernel) Go.Proofs.Try.Oct.tb_specTrimR_ok)
set_option maxRecDepth 100000 in
set_option maxHeartbeats 4000000 in
theorem specRightR (n v : List UInt8) (hn : n.length ≤ 1000000) (hv : v.length ≤ 1000000) : SpecE Try.prog 19 [] [.agg [.str n, .str v]] [] (.bool (fldRight n v)) := by
  refine specF0 (C := T_specRightR) (wr := false) (D := fun _ => []) (U := fun _ => none) (res := [.bool (fldRight n v)]) Try.Ty.mixed T_specRightR_ok Try.func19 (nA := 1) (by decide +kernel) rfl (fun _ => rfl) ?_
  simp only [Try.f19, bodyOf, rlOf]
  rw [W_V]
  simp (config := {maxSteps := 2000000}) only [T_specRightR, Go.Proofs.Try.Oct.tb_specTokenR, Go.Proofs.Try.Oct.tb_specValueR, Go.Proofs.Try.Oct.tb_specTrimR, go_sem, go_sem, reduceIte, Nat.reduceEqDiff, Nat.reduceAdd, Nat.reduceMul, Nat.reduceSub, Nat.reduceBEq, Nat.reduceLT, Nat.reduceLeDiff, reduceCtorEq, Int.reduceNeg, Int.reduceEq, String.reduceEq, Int.reduceLT, Int.reduceLE, Int.reduceToNat, Int.reduceAdd, Int.reduceMul, Int.reduceSub, Try.Ty.g1, Try.underlying1, Try.underlying2, Try.Ty.s2, Try.Ty.b2, Try.Ty.a2, Try.Ty.z2, Try.underlying4, Try.Ty.s4, Try.Ty.b4, Try.Ty.a4, Try.Ty.z4, Try.underlying9, Try.Ty.s9, Try.Ty.b9, Try.Ty.a9, Try.Ty.z9, Try.underlying23, Try.Ty.s23, Try.Ty.b23, Try.Ty.a23, Try.Ty.g23, Try.Ty.h23, Try.Ty.z23, Try.Ty.g28, Try.underlying28, Try.Ty.g38, Try.underlying38, Try.Ty.g39, Try.underlying39, Try.Ty.g46, Try.underlying46, Try.Ty.g52, Try.underlying52, Try.Ty.g53, Try.underlying53, Try.Ty.g54, Try.underlying54]
  (try simp (config := {maxSteps := 2000000}) only [gimp, impB, isT, go_sem, reduceIte, Nat.reduceEqDiff, Nat.reduceAdd, Nat.reduceMul, Nat.reduceSub, Nat.reduceBEq, Nat.reduceLT, Nat.reduceLeDiff, reduceCtorEq, Int.reduceNeg, Int.reduceEq, String.reduceEq, Int.reduceLT, Int.reduceLE, Int.reduceToNat, Int.reduceAdd, Int.reduceMul, Int.reduceSub])
  refine ⟨by omega, fun _ => by omega, fun _ _ => ?_, by simp [fldRight, Bool.and_assoc]⟩
  show _ ≤ 9223372036854775807
  omega
def tb_specRightR : List Blk → List AV → Option (List Blk × AV × Prop)
  | [], [.agg [.str n, .str v]] => some ([], .bool (fldRight n v), (n.length ≤ 1000000) ∧ (v.length ≤ 1000000))
  | _, _ => none
theorem tb_specRightR_ok : ∀ E args E' res p, tb_specRightR E args = some (E', res, p) → p → SpecE Try.prog 19 E args E' res := by
  intro E args E' res p h hp
  unfold tb_specRightR at h
  split at h
  · simp only [Option.some.injEq, Prod.mk.injEq] at h
    obtain ⟨rfl, rfl, rfl⟩ := h
    exact (specRightR _ _ hp.1 hp.2)
  · cases h
def T_specLives : Tbl := fun g E args => (addT (addT nilT 14 Go.Proofs.Try.Fld.tb_specParse) 16 Go.Proofs.Try.Fld.tb_specLine) g E args
theorem T_specLives_ok : TblOK Try.prog T_specLives := (addT_ok (addT_ok nilT_ok (by decide +kernel) Go.Proofs.Try.Fld.tb_specParse_ok) (by decide +kernel) Go.Proofs.Try.Fld.tb_specLine_ok)
set_option maxRecDepth 100000 in
set_option maxHeartbeats 4000000 in
theorem specLives : SpecE Try.prog 20 [] [] [] (.bool true) := by
  refine specF0 (C := T_specLives) (wr := false) (D := fun _ => []) (U := fun _ => none) (res := [.bool true]) Try.Ty.mixed T_specLives_ok Try.func20 (nA := 0) (by decide +kernel) rfl (fun _ => rfl) ?_
  simp only [Try.f20, bodyOf, rlOf]
  rw [W_V]
  simp (config := {maxSteps := 2000000}) only [T_specLives, Go.Proofs.Try.Fld.tb_specParse, Go.Proofs.Try.Fld.tb_specLine, go_sem, go_sem, reduceIte, Nat.reduceEqDiff, Nat.reduceAdd, Nat.reduceMul, Nat.reduceSub, Nat.reduceBEq, Nat.reduceLT, Nat.reduceLeDiff, reduceCtorEq, Int.reduceNeg, Int.reduceEq, String.reduceEq, Int.reduceLT, Int.reduceLE, Int.reduceToNat, Int.reduceAdd, Int.reduceMul, Int.reduceSub, Try.Ty.g1, Try.underlying1, Try.underlying2, Try.Ty.s2, Try.Ty.b2, Try.Ty.a2, Try.Ty.z2, Try.underlying3, Try.Ty.s3, Try.Ty.b3, Try.Ty.a3, Try.Ty.z3, Try.underlying4, Try.Ty.s4, Try.Ty.b4, Try.Ty.a4, Try.Ty.z4, Try.underlying5, Try.Ty.s5, Try.Ty.b5, Try.Ty.a5, Try.Ty.z5, Try.underlying6, Try.Ty.s6, Try.Ty.b6, Try.Ty.a6, Try.Ty.z6, Try.underlying9, Try.Ty.s9, Try.Ty.b9, Try.Ty.a9, Try.Ty.z9, Try.underlying12, Try.Ty.s12, Try.Ty.b12, Try.Ty.a12, Try.Ty.z12, Try.underlying13, Try.Ty.s13, Try.Ty.b13, Try.Ty.a13, Try.Ty.z13, Try.underlying14, Try.Ty.s14, Try.Ty.b14, Try.Ty.a14, Try.Ty.z14, Try.Ty.g15, Try.underlying15, Try.Ty.s15, Try.Ty.b15, Try.Ty.a15, Try.Ty.z15, Try.Ty.g16, Try.underlying16, Try.Ty.s16, Try.Ty.b16, Try.Ty.a16, Try.Ty.z16, Try.Ty.g17, Try.underlying17, Try.Ty.s17, Try.Ty.b17, Try.Ty.a17, Try.Ty.z17, Try.underlying23, Try.Ty.s23, Try.Ty.b23, Try.Ty.a23, Try.Ty.g23, Try.Ty.h23, Try.Ty.z23, Try.underlying24, Try.Ty.s24, Try.Ty.b24, Try.Ty.a24, Try.Ty.z24, Try.Ty.g26, Try.underlying26, Try.Ty.g27, Try.underlying27, Try.Ty.g29, Try.underlying29, Try.Ty.g110, Try.underlying110, Try.Ty.s110, Try.Ty.b110, Try.Ty.a110, Try.Ty.z110, Try.underlying119, Try.Ty.s119, Try.Ty.b119, Try.Ty.a119, Try.Ty.z119, Try.underlying126, Try.Ty.s126, Try.Ty.b126, Try.Ty.a126, Try.Ty.z126, Try.underlying127, Try.Ty.s127, Try.Ty.b127, Try.Ty.a127, Try.Ty.z127, Try.underlying129, Try.Ty.s129, Try.Ty.b129, Try.Ty.a129, Try.Ty.z129, Try.underlying130, Try.Ty.s130, Try.Ty.b130, Try.Ty.a130, Try.Ty.z130, Try.underlying131, Try.Ty.s131, Try.Ty.b131, Try.Ty.a131, Try.Ty.z131, Try.Ty.g132, Try.underlying132, Try.underlying133, Try.Ty.s133, Try.Ty.b133, Try.Ty.a133, Try.Ty.z133, Try.underlying134, Try.Ty.s134, Try.Ty.b134, Try.Ty.a134, Try.Ty.z134, Try.underlying136, Try.Ty.s136, Try.Ty.b136, Try.Ty.a136, Try.Ty.z136]
  (try simp (config := {maxSteps := 2000000}) only [gimp, impB, isT, go_sem, reduceIte, Nat.reduceEqDiff, Nat.reduceAdd, Nat.reduceMul, Nat.reduceSub, Nat.reduceBEq, Nat.reduceLT, Nat.reduceLeDiff, reduceCtorEq, Int.reduceNeg, Int.reduceEq, String.reduceEq, Int.reduceLT, Int.reduceLE, Int.reduceToNat, Int.reduceAdd, Int.reduceMul, Int.reduceSub])
  decide +kernel
def tb_specLives : List Blk → List AV → Option (List Blk × AV × Prop)
  | [], [] => some ([], .bool true, True)
  | _, _ => none
theorem tb_specLives_ok : ∀ E args E' res p, tb_specLives E args = some (E', res, p) → p → SpecE Try.prog 20 E args E' res := by
  intro E args E' res p h hp
  unfold tb_specLives at h
  split at h
  · simp only [Option.some.injEq, Prod.mk.injEq] at h
    obtain ⟨rfl, rfl, rfl⟩ := h
    exact specLives
  · cases h

def T_specLawParses : Tbl := fun g E args => (addT (addT (addT (addT (addT (addT (addT nilT 14 Go.Proofs.Try.Fld.tb_specParse) 16 Go.Proofs.Try.Fld.tb_specLine) 18 Go.Proofs.Try.Fld.tb_specRight) 15 Go.Proofs.Try.Fld.tb_specParseR) 17 Go.Proofs.Try.Fld.tb_specLineR) 19 Go.Proofs.Try.Fld.tb_specRightR) 20 Go.Proofs.Try.Fld.tb_specLives) g E args
theorem T_specLawParses_ok : TblOK Try.prog T_specLawParses := (addT_ok (addT_ok (addT_ok (addT_ok (addT_ok (addT_ok (addT_ok nilT_ok (by decide +kernel) Go.Proofs.Try.Fld.tb_specParse_ok) (by decide +kernel) Go.Proofs.Try.Fld.tb_specLine_ok) (by decide +kernel) Go.Proofs.Try.Fld.tb_specRight_ok) (by decide +kernel) Go.Proofs.Try.Fld.tb_specParseR_ok) (by decide +kernel) Go.Proofs.Try.Fld.tb_specLineR_ok) (by decide +kernel) Go.Proofs.Try.Fld.tb_specRightR_ok) (by decide +kernel) Go.Proofs.Try.Fld.tb_specLives_ok)
set_option maxRecDepth 100000 in
set_option maxHeartbeats 4000000 in
theorem specLawParses (s n v : List UInt8) : SpecE Try.prog 3 [] [.str s, .agg [.str n, .str v]] [] (.bool true) := by
  refine specF0 (C := T_specLawParses) (wr := false) (D := fun _ => []) (U := fun _ => none) (res := [.bool true]) Try.Ty.mixed T_specLawParses_ok Try.func3 (nA := 2) (by decide +kernel) rfl (fun _ => rfl) ?_
  simp only [Try.f3, bodyOf, rlOf]
  rw [W_V]
  simp (config := {maxSteps := 2000000}) only [T_specLawParses, Go.Proofs.Try.Fld.tb_specParse, Go.Proofs.Try.Fld.tb_specLine, Go.Proofs.Try.Fld.tb_specRight, Go.Proofs.Try.Fld.tb_specParseR, Go.Proofs.Try.Fld.tb_specLineR, Go.Proofs.Try.Fld.tb_specRightR, Go.Proofs.Try.Fld.tb_specLives, go_sem, go_sem, reduceIte, Nat.reduceEqDiff, Nat.reduceAdd, Nat.reduceMul, Nat.reduceSub, Nat.reduceBEq, Nat.reduceLT, Nat.reduceLeDiff, reduceCtorEq, Int.reduceNeg, Int.reduceEq, String.reduceEq, Int.reduceLT, Int.reduceLE, Int.reduceToNat, Int.reduceAdd, Int.reduceMul, Int.reduceSub, Try.Ty.g1, Try.underlying1, Try.underlying2, Try.Ty.s2, Try.Ty.b2, Try.Ty.a2, Try.Ty.z2, Try.underlying3, Try.Ty.s3, Try.Ty.b3, Try.Ty.a3, Try.Ty.z3, Try.underlying4, Try.Ty.s4, Try.Ty.b4, Try.Ty.a4, Try.Ty.z4, Try.underlying5, Try.Ty.s5, Try.Ty.b5, Try.Ty.a5, Try.Ty.z5, Try.underlying6, Try.Ty.s6, Try.Ty.b6, Try.Ty.a6, Try.Ty.z6, Try.underlying7, Try.Ty.s7, Try.Ty.b7, Try.Ty.a7, Try.Ty.g7, Try.Ty.h7, Try.Ty.z7, Try.underlying9, Try.Ty.s9, Try.Ty.b9, Try.Ty.a9, Try.Ty.z9, Try.underlying12, Try.Ty.s12, Try.Ty.b12, Try.Ty.a12, Try.Ty.z12, Try.underlying14, Try.Ty.s14, Try.Ty.b14, Try.Ty.a14, Try.Ty.z14, Try.Ty.g15, Try.underlying15, Try.Ty.s15, Try.Ty.b15, Try.Ty.a15, Try.Ty.z15, Try.Ty.g16, Try.underlying16, Try.Ty.s16, Try.Ty.b16, Try.Ty.a16, Try.Ty.z16, Try.Ty.g17, Try.underlying17, Try.Ty.s17, Try.Ty.b17, Try.Ty.a17, Try.Ty.z17, Try.underlying18, Try.Ty.s18, Try.Ty.b18, Try.Ty.a18, Try.Ty.z18, Try.underlying19, Try.Ty.s19, Try.Ty.b19, Try.Ty.a19, Try.Ty.z19, Try.underlying20, Try.Ty.s20, Try.Ty.b20, Try.Ty.a20, Try.Ty.z20, Try.underlying23, Try.Ty.s23, Try.Ty.b23, Try.Ty.a23, Try.Ty.g23, Try.Ty.h23, Try.Ty.z23, Try.underlying24, Try.Ty.s24, Try.Ty.b24, Try.Ty.a24, Try.Ty.z24, Try.Ty.g26, Try.underlying26, Try.Ty.g27, Try.underlying27, Try.Ty.g28, Try.underlying28, Try.Ty.g29, Try.underlying29, Try.Ty.g30, Try.underlying30, Try.Ty.g36, Try.underlying36, Try.Ty.g37, Try.underlying37, Try.Ty.g38, Try.underlying38, Try.Ty.g39, Try.underlying39, Try.Ty.g110, Try.underlying110, Try.Ty.s110, Try.Ty.b110, Try.Ty.a110, Try.Ty.z110, Try.underlying119, Try.Ty.s119, Try.Ty.b119, Try.Ty.a119, Try.Ty.z119, Try.underlying126, Try.Ty.s126, Try.Ty.b126, Try.Ty.a126, Try.Ty.z126, Try.underlying127, Try.Ty.s127, Try.Ty.b127, Try.Ty.a127, Try.Ty.z127, Try.underlying129, Try.Ty.s129, Try.Ty.b129, Try.Ty.a129, Try.Ty.z129, Try.underlying130, Try.Ty.s130, Try.Ty.b130, Try.Ty.a130, Try.Ty.z130, Try.underlying131, Try.Ty.s131, Try.Ty.b131, Try.Ty.a131, Try.Ty.z131, Try.Ty.g132, Try.underlying132, Try.underlying133, Try.Ty.s133, Try.Ty.b133, Try.Ty.a133, Try.Ty.z133, Try.underlying134, Try.Ty.s134, Try.Ty.b134, Try.Ty.a134, Try.Ty.z134, Try.underlying136, Try.Ty.s136, Try.Ty.b136, Try.Ty.a136, Try.Ty.z136]
  (try simp (config := {maxSteps := 2000000}) only [gimp, impB, isT, go_sem, reduceIte, Nat.reduceEqDiff, Nat.reduceAdd, Nat.reduceMul, Nat.reduceSub, Nat.reduceBEq, Nat.reduceLT, Nat.reduceLeDiff, reduceCtorEq, Int.reduceNeg, Int.reduceEq, String.reduceEq, Int.reduceLT, Int.reduceLE, Int.reduceToNat, Int.reduceAdd, Int.reduceMul, Int.reduceSub])
  simp only [List.length_take, show maxLen = 9223372036854775807 from rfl]
  omega
def tb_specLawParses : List Blk → List AV → Option (List Blk × AV × Prop)
  | [], [.str s, .agg [.str n, .str v]] => some ([], .bool true, True)
  | _, _ => none
theorem tb_specLawParses_ok : ∀ E args E' res p, tb_specLawParses E args = some (E', res, p) → p → SpecE Try.prog 3 E args E' res := by
  intro E args E' res p h hp
  unfold tb_specLawParses at h
  split at h
  · simp only [Option.some.injEq, Prod.mk.injEq] at h
    obtain ⟨rfl, rfl, rfl⟩ := h
    exact (specLawParses _ _ _)
  · cases h
end Go.Proofs.Try.Fld
