/- Go's library: the walks. No condition. -/
import Derived.Test.YtnfidlgiaaeleaaDoorLibM
import Derived.Test.YtnfidlgiaaeleaaDoorTyp
import Derived.Test.YtnfidlgiaaeleaaDoorProg
import Derived.KernelRfl
set_option linter.unusedVariables false
set_option linter.unusedSimpArgs false
namespace Go.Proofs.Tryd.Lib
open Go Go.Abs Go.Proofs Go.Mdl

def T_specIndexByteString : Tbl := fun g E args => nilT g E args
theorem T_specIndexByteString_ok : TblOK Tryd.prog T_specIndexByteString := nilT_ok
set_option maxRecDepth 100000 in
set_option maxHeartbeats 4000000 in
theorem specIndexByteString (s : List UInt8) (c : UInt8) : SpecE Tryd.prog 95 [] [.str s, enc_u8 c] [] (.int .i64 (idxB c s)) := by
  intro w ok φ vs hh hl hr
  obtain ⟨v0, v1, rfl⟩ : ∃ v0 v1, vs = [v0, v1] := by
    match vs, hl with
    | [a, b], _ => exact ⟨a, b, rfl⟩
  have e0 := (hr 0 _ _ rfl rfl).strInv
  have e1 := (hr 1 _ _ rfl rfl).intInv
  subst e0 e1
  refine ⟨.value (.int .i64 (idxB c s)), w, ?_, _, ok, φ, rfl, PostE.same hh (.pure _ _ (.int _ _))⟩
  simp only [InvF, if_neg (show ¬ (95 : FuncId) = yldF by decide)]
  rw [run_callFunc_extern Tryd.func95 (by kernel_rfl) (by kernel_rfl) (by kernel_rfl) (e := Extern.BytealgIndexByte.indexByte) (by kernel_rfl), Go.Lib.run_indexByteString]
  simp only [Result.andThen]
  rw [indexByte_idxB]
  simp
def tb_specIndexByteString : List Blk → List AV → Option (List Blk × AV × Prop)
  | [], [.str s, a1] => some ([], .int .i64 (idxB (dec_u8 a1) s), argOK a1 (enc_u8 (dec_u8 a1)))
  | _, _ => none
theorem tb_specIndexByteString_ok : ∀ E args E' res p, tb_specIndexByteString E args = some (E', res, p) → p → SpecE Tryd.prog 95 E args E' res := by
  intro E args E' res p h hp
  unfold tb_specIndexByteString at h
  split at h
  · simp only [Option.some.injEq, Prod.mk.injEq] at h
    obtain ⟨rfl, rfl, rfl⟩ := h
    exact SpecE.args (specIndexByteString _ _) (.cons (argOK.refl _) (.cons hp .nil))
  · cases h

def T_specSLIndexByte : Tbl := fun g E args => (addT nilT 95 Go.Proofs.Tryd.Lib.tb_specIndexByteString) g E args
theorem T_specSLIndexByte_ok : TblOK Tryd.prog T_specSLIndexByte := (addT_ok nilT_ok (by decide +kernel) Go.Proofs.Tryd.Lib.tb_specIndexByteString_ok)
set_option maxRecDepth 100000 in
set_option maxHeartbeats 4000000 in
theorem specSLIndexByte (s : List UInt8) (c : UInt8) : SpecE Tryd.prog 88 [] [.str s, enc_u8 c] [] (.int .i64 (idxB c s)) := by
  refine specF0 (C := T_specSLIndexByte) (wr := false) (D := fun _ => []) (U := fun _ => none) (res := [.int .i64 (idxB c s)]) Tryd.Ty.mixed T_specSLIndexByte_ok Tryd.func88 (nA := 2) (by decide +kernel) rfl (fun _ => rfl) ?_
  simp only [Tryd.f88, bodyOf, rlOf]
  rw [W_V]
  simp (config := {maxSteps := 2000000}) only [T_specSLIndexByte, Go.Proofs.Tryd.Lib.tb_specIndexByteString, go_sem, reduceIte, Nat.reduceEqDiff, Nat.reduceAdd, Nat.reduceMul, Nat.reduceDiv, Nat.reduceMod, Nat.reduceSub, Nat.reduceBEq, Nat.reduceLT, Nat.reduceLeDiff, reduceCtorEq, Int.reduceNeg, Int.reduceEq, String.reduceEq, Int.reduceLT, Int.reduceLE, Int.reduceToNat, Int.reduceAdd, Int.reduceMul, Int.reduceSub]
  (try simp (config := {maxSteps := 2000000}) only [gimp, impB, isT, go_sem, reduceIte, Nat.reduceEqDiff, Nat.reduceAdd, Nat.reduceMul, Nat.reduceDiv, Nat.reduceMod, Nat.reduceSub, Nat.reduceBEq, Nat.reduceLT, Nat.reduceLeDiff, reduceCtorEq, Int.reduceNeg, Int.reduceEq, String.reduceEq, Int.reduceLT, Int.reduceLE, Int.reduceToNat, Int.reduceAdd, Int.reduceMul, Int.reduceSub])
def tb_specSLIndexByte : List Blk → List AV → Option (List Blk × AV × Prop)
  | [], [.str s, a1] => some ([], .int .i64 (idxB (dec_u8 a1) s), argOK a1 (enc_u8 (dec_u8 a1)))
  | _, _ => none
theorem tb_specSLIndexByte_ok : ∀ E args E' res p, tb_specSLIndexByte E args = some (E', res, p) → p → SpecE Tryd.prog 88 E args E' res := by
  intro E args E' res p h hp
  unfold tb_specSLIndexByte at h
  split at h
  · simp only [Option.some.injEq, Prod.mk.injEq] at h
    obtain ⟨rfl, rfl, rfl⟩ := h
    exact SpecE.args (specSLIndexByte _ _) (.cons (argOK.refl _) (.cons hp .nil))
  · cases h

def T_specIndexByte : Tbl := fun g E args => (addT nilT 88 Go.Proofs.Tryd.Lib.tb_specSLIndexByte) g E args
theorem T_specIndexByte_ok : TblOK Tryd.prog T_specIndexByte := (addT_ok nilT_ok (by decide +kernel) Go.Proofs.Tryd.Lib.tb_specSLIndexByte_ok)
set_option maxRecDepth 100000 in
set_option maxHeartbeats 4000000 in
theorem specIndexByte (s : List UInt8) (c : UInt8) : SpecE Tryd.prog 97 [] [.str s, enc_u8 c] [] (.int .i64 (idxB c s)) := by
  refine specF0 (C := T_specIndexByte) (wr := false) (D := fun _ => []) (U := fun _ => none) (res := [.int .i64 (idxB c s)]) Tryd.Ty.mixed T_specIndexByte_ok Tryd.func97 (nA := 2) (by decide +kernel) rfl (fun _ => rfl) ?_
  simp only [Tryd.f97, bodyOf, rlOf]
  rw [W_V]
  simp (config := {maxSteps := 2000000}) only [T_specIndexByte, Go.Proofs.Tryd.Lib.tb_specSLIndexByte, go_sem, reduceIte, Nat.reduceEqDiff, Nat.reduceAdd, Nat.reduceMul, Nat.reduceDiv, Nat.reduceMod, Nat.reduceSub, Nat.reduceBEq, Nat.reduceLT, Nat.reduceLeDiff, reduceCtorEq, Int.reduceNeg, Int.reduceEq, String.reduceEq, Int.reduceLT, Int.reduceLE, Int.reduceToNat, Int.reduceAdd, Int.reduceMul, Int.reduceSub]
  (try simp (config := {maxSteps := 2000000}) only [gimp, impB, isT, go_sem, reduceIte, Nat.reduceEqDiff, Nat.reduceAdd, Nat.reduceMul, Nat.reduceDiv, Nat.reduceMod, Nat.reduceSub, Nat.reduceBEq, Nat.reduceLT, Nat.reduceLeDiff, reduceCtorEq, Int.reduceNeg, Int.reduceEq, String.reduceEq, Int.reduceLT, Int.reduceLE, Int.reduceToNat, Int.reduceAdd, Int.reduceMul, Int.reduceSub])
def tb_specIndexByte : List Blk → List AV → Option (List Blk × AV × Prop)
  | [], [.str s, a1] => some ([], .int .i64 (idxB (dec_u8 a1) s), argOK a1 (enc_u8 (dec_u8 a1)))
  | _, _ => none
theorem tb_specIndexByte_ok : ∀ E args E' res p, tb_specIndexByte E args = some (E', res, p) → p → SpecE Tryd.prog 97 E args E' res := by
  intro E args E' res p h hp
  unfold tb_specIndexByte at h
  split at h
  · simp only [Option.some.injEq, Prod.mk.injEq] at h
    obtain ⟨rfl, rfl, rfl⟩ := h
    exact SpecE.args (specIndexByte _ _) (.cons (argOK.refl _) (.cons hp .nil))
  · cases h

def T_specIndex1 : Tbl := fun g E args => (addT nilT 88 Go.Proofs.Tryd.Lib.tb_specSLIndexByte) g E args
theorem T_specIndex1_ok : TblOK Tryd.prog T_specIndex1 := (addT_ok nilT_ok (by decide +kernel) Go.Proofs.Tryd.Lib.tb_specSLIndexByte_ok)
set_option maxRecDepth 100000 in
set_option maxHeartbeats 4000000 in
theorem specIndex1 (s : List UInt8) (c : UInt8) (hs : s.length ≤ maxLen) : SpecE Tryd.prog 77 [] [.str s, .str [c]] [] (.int .i64 (idxB c s)) := by
  refine specF0 (C := T_specIndex1) (wr := false) (D := fun _ => []) (U := fun _ => none) (res := [.int .i64 (idxB c s)]) Tryd.Ty.mixed T_specIndex1_ok Tryd.func77 (nA := 2) (by decide +kernel) rfl (fun _ => rfl) ?_
  simp only [Tryd.f77, bodyOf, rlOf]
  rw [W_V]
  simp (config := {maxSteps := 2000000}) only [T_specIndex1, Go.Proofs.Tryd.Lib.tb_specSLIndexByte, go_sem, reduceIte, Nat.reduceEqDiff, Nat.reduceAdd, Nat.reduceMul, Nat.reduceDiv, Nat.reduceMod, Nat.reduceSub, Nat.reduceBEq, Nat.reduceLT, Nat.reduceLeDiff, reduceCtorEq, Int.reduceNeg, Int.reduceEq, String.reduceEq, Int.reduceLT, Int.reduceLE, Int.reduceToNat, Int.reduceAdd, Int.reduceMul, Int.reduceSub]
  (try simp (config := {maxSteps := 2000000}) only [gimp, impB, isT, go_sem, reduceIte, Nat.reduceEqDiff, Nat.reduceAdd, Nat.reduceMul, Nat.reduceDiv, Nat.reduceMod, Nat.reduceSub, Nat.reduceBEq, Nat.reduceLT, Nat.reduceLeDiff, reduceCtorEq, Int.reduceNeg, Int.reduceEq, String.reduceEq, Int.reduceLT, Int.reduceLE, Int.reduceToNat, Int.reduceAdd, Int.reduceMul, Int.reduceSub])
  rintro rfl
  simp [idxB, upTo]
def tb_specIndex1 : List Blk → List AV → Option (List Blk × AV × Prop)
  | [], [.str s, .str [c]] => some ([], .int .i64 (idxB c s), (s.length ≤ maxLen))
  | _, _ => none
theorem tb_specIndex1_ok : ∀ E args E' res p, tb_specIndex1 E args = some (E', res, p) → p → SpecE Tryd.prog 77 E args E' res := by
  intro E args E' res p h hp
  unfold tb_specIndex1 at h
  split at h
  · simp only [Option.some.injEq, Prod.mk.injEq] at h
    obtain ⟨rfl, rfl, rfl⟩ := h
    exact (specIndex1 _ _ hp)
  · cases h

def T_specSLCut : Tbl := fun g E args => (addT nilT 77 Go.Proofs.Tryd.Lib.tb_specIndex1) g E args
theorem T_specSLCut_ok : TblOK Tryd.prog T_specSLCut := (addT_ok nilT_ok (by decide +kernel) Go.Proofs.Tryd.Lib.tb_specIndex1_ok)
set_option maxRecDepth 100000 in
set_option maxHeartbeats 4000000 in
theorem specSLCut (s : List UInt8) (c : UInt8) (hs : s.length ≤ maxLen) : SpecE Tryd.prog 57 [] [.str s, .str [c]] [] (.tuple [.str (s.take (upTo c s)), .str (s.drop (upTo c s + 1)), .bool (decide (upTo c s < s.length))]) := by
  refine specF0 (C := T_specSLCut) (wr := false) (D := fun _ => []) (U := fun _ => none) (res := [.str (s.take (upTo c s)), .str (s.drop (upTo c s + 1)), .bool (decide (upTo c s < s.length))]) Tryd.Ty.mixed T_specSLCut_ok Tryd.func57 (nA := 2) (by decide +kernel) rfl (fun _ => rfl) ?_
  simp only [Tryd.f57, bodyOf, rlOf]
  rw [W_V]
  simp (config := {maxSteps := 2000000}) only [T_specSLCut, Go.Proofs.Tryd.Lib.tb_specIndex1, go_sem, reduceIte, Nat.reduceEqDiff, Nat.reduceAdd, Nat.reduceMul, Nat.reduceDiv, Nat.reduceMod, Nat.reduceSub, Nat.reduceBEq, Nat.reduceLT, Nat.reduceLeDiff, reduceCtorEq, Int.reduceNeg, Int.reduceEq, String.reduceEq, Int.reduceLT, Int.reduceLE, Int.reduceToNat, Int.reduceAdd, Int.reduceMul, Int.reduceSub]
  (try simp (config := {maxSteps := 2000000}) only [gimp, impB, isT, go_sem, reduceIte, Nat.reduceEqDiff, Nat.reduceAdd, Nat.reduceMul, Nat.reduceDiv, Nat.reduceMod, Nat.reduceSub, Nat.reduceBEq, Nat.reduceLT, Nat.reduceLeDiff, reduceCtorEq, Int.reduceNeg, Int.reduceEq, String.reduceEq, Int.reduceLT, Int.reduceLE, Int.reduceToNat, Int.reduceAdd, Int.reduceMul, Int.reduceSub])
  have h1 := upTo_le c s
  have h2 : s.length ≤ 9223372036854775807 := hs
  refine ⟨hs, fun h => ?_, fun h => ?_⟩
  · have hi : upTo c s < s.length := by
      by_cases h3 : upTo c s < s.length
      · exact h3
      · simp [idxB, h3] at h
    have e : idxB c s = (upTo c s : Int) := by simp [idxB, hi]
    rw [e]
    refine ⟨by omega, by omega, by omega, by simp, ?_, by simp [hi]⟩
    rw [show ((upTo c s : Int) + 1).toNat = upTo c s + 1 by omega]
  · have hi : ¬ upTo c s < s.length := fun h3 => by simp [idxB, h3] at h; omega
    refine ⟨?_, ?_, by simp [hi]⟩
    · rw [List.take_of_length_le (by omega)]
    · rw [List.drop_of_length_le (by omega)]
def tb_specSLCut : List Blk → List AV → Option (List Blk × AV × Prop)
  | [], [.str s, .str [c]] => some ([], .tuple [.str (s.take (upTo c s)), .str (s.drop (upTo c s + 1)), .bool (decide (upTo c s < s.length))], (s.length ≤ maxLen))
  | _, _ => none
theorem tb_specSLCut_ok : ∀ E args E' res p, tb_specSLCut E args = some (E', res, p) → p → SpecE Tryd.prog 57 E args E' res := by
  intro E args E' res p h hp
  unfold tb_specSLCut at h
  split at h
  · simp only [Option.some.injEq, Prod.mk.injEq] at h
    obtain ⟨rfl, rfl, rfl⟩ := h
    exact (specSLCut _ _ hp)
  · cases h

def T_specCut : Tbl := fun g E args => (addT nilT 57 Go.Proofs.Tryd.Lib.tb_specSLCut) g E args
theorem T_specCut_ok : TblOK Tryd.prog T_specCut := (addT_ok nilT_ok (by decide +kernel) Go.Proofs.Tryd.Lib.tb_specSLCut_ok)
set_option maxRecDepth 100000 in
set_option maxHeartbeats 4000000 in
theorem specCut (s : List UInt8) (c : UInt8) (hs : s.length ≤ maxLen) : SpecE Tryd.prog 37 [] [.str s, .str [c]] [] (.tuple [.str (s.take (upTo c s)), .str (s.drop (upTo c s + 1)), .bool (decide (upTo c s < s.length))]) := by
  refine specF0 (C := T_specCut) (wr := false) (D := fun _ => []) (U := fun _ => none) (res := [.str (s.take (upTo c s)), .str (s.drop (upTo c s + 1)), .bool (decide (upTo c s < s.length))]) Tryd.Ty.mixed T_specCut_ok Tryd.func37 (nA := 2) (by decide +kernel) rfl (fun _ => rfl) ?_
  simp only [Tryd.f37, bodyOf, rlOf]
  rw [W_V]
  simp (config := {maxSteps := 2000000}) only [T_specCut, Go.Proofs.Tryd.Lib.tb_specSLCut, go_sem, reduceIte, Nat.reduceEqDiff, Nat.reduceAdd, Nat.reduceMul, Nat.reduceDiv, Nat.reduceMod, Nat.reduceSub, Nat.reduceBEq, Nat.reduceLT, Nat.reduceLeDiff, reduceCtorEq, Int.reduceNeg, Int.reduceEq, String.reduceEq, Int.reduceLT, Int.reduceLE, Int.reduceToNat, Int.reduceAdd, Int.reduceMul, Int.reduceSub]
  (try simp (config := {maxSteps := 2000000}) only [gimp, impB, isT, go_sem, reduceIte, Nat.reduceEqDiff, Nat.reduceAdd, Nat.reduceMul, Nat.reduceDiv, Nat.reduceMod, Nat.reduceSub, Nat.reduceBEq, Nat.reduceLT, Nat.reduceLeDiff, reduceCtorEq, Int.reduceNeg, Int.reduceEq, String.reduceEq, Int.reduceLT, Int.reduceLE, Int.reduceToNat, Int.reduceAdd, Int.reduceMul, Int.reduceSub])
  exact hs
def tb_specCut : List Blk → List AV → Option (List Blk × AV × Prop)
  | [], [.str s, .str [c]] => some ([], .tuple [.str (s.take (upTo c s)), .str (s.drop (upTo c s + 1)), .bool (decide (upTo c s < s.length))], (s.length ≤ maxLen))
  | _, _ => none
theorem tb_specCut_ok : ∀ E args E' res p, tb_specCut E args = some (E', res, p) → p → SpecE Tryd.prog 37 E args E' res := by
  intro E args E' res p h hp
  unfold tb_specCut at h
  split at h
  · simp only [Option.some.injEq, Prod.mk.injEq] at h
    obtain ⟨rfl, rfl, rfl⟩ := h
    exact (specCut _ _ hp)
  · cases h
end Go.Proofs.Tryd.Lib
