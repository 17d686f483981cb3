/- Go's library: the walks. No condition. -/
import Derived.Test.YtlkfjkimnkhelaaDoorLibM
import Derived.Test.YtlkfjkimnkhelaaDoorTyp
import Derived.Test.YtlkfjkimnkhelaaDoorProg
import Derived.KernelRfl
set_option linter.unusedVariables false
set_option linter.unusedSimpArgs false
namespace Go.Proofs.Tryd.Lib
open Go Go.Abs Go.Proofs Go.Mdl

def T_specIndexByteString : Tbl := fun g E args => nilT g E args
theorem T_specIndexByteString_ok : TblOK Tryd.prog T_specIndexByteString := nilT_ok
set_option maxRecDepth 100000 in
set_option maxHeartbeats 4000000 in
theorem specIndexByteString (s : List UInt8) (c : UInt8) : SpecE Tryd.prog 101 [] [.str s, enc_u8 c] [] (.int .i64 (idxB c s)) := by
  intro w ok φ vs hh hl hr
  obtain ⟨v0, v1, rfl⟩ : ∃ v0 v1, vs = [v0, v1] := by
    match vs, hl with
    | [a, b], _ => exact ⟨a, b, rfl⟩
  have e0 := (hr 0 _ _ rfl rfl).strInv
  have e1 := (hr 1 _ _ rfl rfl).intInv
  subst e0 e1
  refine ⟨.value (.int .i64 (idxB c s)), w, ?_, _, ok, φ, rfl, PostE.same hh (.pure _ _ (.int _ _))⟩
  simp only [InvF, if_neg (show ¬ (101 : FuncId) = yldF by decide)]
  rw [run_callFunc_extern Tryd.func101 (by kernel_rfl) (by kernel_rfl) (by kernel_rfl) (e := Extern.BytealgIndexByte.indexByte) (by kernel_rfl), Go.Lib.run_indexByteString]
  simp only [Result.andThen]
  rw [indexByte_idxB]
  simp
def tb_specIndexByteString : List Blk → List AV → Option (List Blk × AV × Prop)
  | [], [.str s, a1] => some ([], .int .i64 (idxB (dec_u8 a1) s), argOK a1 (enc_u8 (dec_u8 a1)))
  | _, _ => none
theorem tb_specIndexByteString_ok : ∀ E args E' res p, tb_specIndexByteString E args = some (E', res, p) → p → SpecE Tryd.prog 101 E args E' res := by
  intro E args E' res p h hp
  unfold tb_specIndexByteString at h
  split at h
  · simp only [Option.some.injEq, Prod.mk.injEq] at h
    obtain ⟨rfl, rfl, rfl⟩ := h
    exact SpecE.args (specIndexByteString _ _) (.cons (argOK.refl _) (.cons hp .nil))
  · cases h

def T_specSLIndexByte : Tbl := fun g E args => (addT nilT 101 Go.Proofs.Tryd.Lib.tb_specIndexByteString) g E args
theorem T_specSLIndexByte_ok : TblOK Tryd.prog T_specSLIndexByte := (addT_ok nilT_ok (by decide +kernel) Go.Proofs.Tryd.Lib.tb_specIndexByteString_ok)
set_option maxRecDepth 100000 in
set_option maxHeartbeats 4000000 in
theorem specSLIndexByte (s : List UInt8) (c : UInt8) : SpecE Tryd.prog 87 [] [.str s, enc_u8 c] [] (.int .i64 (idxB c s)) := by
  refine specF0 (C := T_specSLIndexByte) (wr := false) (D := fun _ => []) (U := fun _ => none) (res := [.int .i64 (idxB c s)]) Tryd.Ty.mixed T_specSLIndexByte_ok Tryd.func87 (nA := 2) (by decide +kernel) rfl (fun _ => rfl) ?_
  simp only [Tryd.f87, bodyOf, rlOf]
  rw [W_V]
  simp (config := {maxSteps := 2000000}) only [T_specSLIndexByte, Go.Proofs.Tryd.Lib.tb_specIndexByteString, go_sem, seval]
  (try simp (config := {maxSteps := 2000000}) only [gimp, impB, isT, go_sem, seval])
def tb_specSLIndexByte : List Blk → List AV → Option (List Blk × AV × Prop)
  | [], [.str s, a1] => some ([], .int .i64 (idxB (dec_u8 a1) s), argOK a1 (enc_u8 (dec_u8 a1)))
  | _, _ => none
theorem tb_specSLIndexByte_ok : ∀ E args E' res p, tb_specSLIndexByte E args = some (E', res, p) → p → SpecE Tryd.prog 87 E args E' res := by
  intro E args E' res p h hp
  unfold tb_specSLIndexByte at h
  split at h
  · simp only [Option.some.injEq, Prod.mk.injEq] at h
    obtain ⟨rfl, rfl, rfl⟩ := h
    exact SpecE.args (specSLIndexByte _ _) (.cons (argOK.refl _) (.cons hp .nil))
  · cases h

def T_specIndexByte : Tbl := fun g E args => (addT nilT 87 Go.Proofs.Tryd.Lib.tb_specSLIndexByte) g E args
theorem T_specIndexByte_ok : TblOK Tryd.prog T_specIndexByte := (addT_ok nilT_ok (by decide +kernel) Go.Proofs.Tryd.Lib.tb_specSLIndexByte_ok)
set_option maxRecDepth 100000 in
set_option maxHeartbeats 4000000 in
theorem specIndexByte (s : List UInt8) (c : UInt8) : SpecE Tryd.prog 106 [] [.str s, enc_u8 c] [] (.int .i64 (idxB c s)) := by
  refine specF0 (C := T_specIndexByte) (wr := false) (D := fun _ => []) (U := fun _ => none) (res := [.int .i64 (idxB c s)]) Tryd.Ty.mixed T_specIndexByte_ok Tryd.func106 (nA := 2) (by decide +kernel) rfl (fun _ => rfl) ?_
  simp only [Tryd.f106, bodyOf, rlOf]
  rw [W_V]
  simp (config := {maxSteps := 2000000}) only [T_specIndexByte, Go.Proofs.Tryd.Lib.tb_specSLIndexByte, go_sem, seval]
  (try simp (config := {maxSteps := 2000000}) only [gimp, impB, isT, go_sem, seval])
def tb_specIndexByte : List Blk → List AV → Option (List Blk × AV × Prop)
  | [], [.str s, a1] => some ([], .int .i64 (idxB (dec_u8 a1) s), argOK a1 (enc_u8 (dec_u8 a1)))
  | _, _ => none
theorem tb_specIndexByte_ok : ∀ E args E' res p, tb_specIndexByte E args = some (E', res, p) → p → SpecE Tryd.prog 106 E args E' res := by
  intro E args E' res p h hp
  unfold tb_specIndexByte at h
  split at h
  · simp only [Option.some.injEq, Prod.mk.injEq] at h
    obtain ⟨rfl, rfl, rfl⟩ := h
    exact SpecE.args (specIndexByte _ _) (.cons (argOK.refl _) (.cons hp .nil))
  · cases h

def T_specIndex1 : Tbl := fun g E args => (addT nilT 87 Go.Proofs.Tryd.Lib.tb_specSLIndexByte) g E args
theorem T_specIndex1_ok : TblOK Tryd.prog T_specIndex1 := (addT_ok nilT_ok (by decide +kernel) Go.Proofs.Tryd.Lib.tb_specSLIndexByte_ok)
set_option maxRecDepth 100000 in
set_option maxHeartbeats 4000000 in
theorem specIndex1 (s : List UInt8) (c : UInt8) (hs : s.length ≤ maxLen) : SpecE Tryd.prog 69 [] [.str s, .str [c]] [] (.int .i64 (idxB c s)) := by
  refine specF0 (C := T_specIndex1) (wr := false) (D := fun _ => []) (U := fun _ => none) (res := [.int .i64 (idxB c s)]) Tryd.Ty.mixed T_specIndex1_ok Tryd.func69 (nA := 2) (by decide +kernel) rfl (fun _ => rfl) ?_
  simp only [Tryd.f69, bodyOf, rlOf]
  rw [W_V]
  simp (config := {maxSteps := 2000000}) only [T_specIndex1, Go.Proofs.Tryd.Lib.tb_specSLIndexByte, go_sem, seval]
  (try simp (config := {maxSteps := 2000000}) only [gimp, impB, isT, go_sem, seval])
  rintro rfl
  simp [idxB, upTo]
def tb_specIndex1 : List Blk → List AV → Option (List Blk × AV × Prop)
  | [], [.str s, .str [c]] => some ([], .int .i64 (idxB c s), (s.length ≤ maxLen))
  | _, _ => none
theorem tb_specIndex1_ok : ∀ E args E' res p, tb_specIndex1 E args = some (E', res, p) → p → SpecE Tryd.prog 69 E args E' res := by
  intro E args E' res p h hp
  unfold tb_specIndex1 at h
  split at h
  · simp only [Option.some.injEq, Prod.mk.injEq] at h
    obtain ⟨rfl, rfl, rfl⟩ := h
    exact (specIndex1 _ _ hp)
  · cases h


end Go.Proofs.Tryd.Lib
