/- digits: the walks over the library; the statement DigitsRead. No condition. -/
import Derived.Test.YtanpmebamgnhbaaDig
import Derived.Test.YtanpmebamgnhbaaLibS
set_option linter.unusedVariables false
set_option linter.unusedSimpArgs false
namespace Go.Proofs.Try.Dig
open Go Go.Abs Go.Proofs Go.Mdl

def T_specPad : Tbl := fun g E args => (addT (addT nilT 153 Go.Proofs.Try.Dig.tb_specText) 265 Go.Proofs.Try.Lib.tb_specRepeat) g E args
theorem T_specPad_ok : TblOK Try.prog T_specPad := (addT_ok (addT_ok nilT_ok (by decide +kernel) Go.Proofs.Try.Dig.tb_specText_ok) (by decide +kernel) Go.Proofs.Try.Lib.tb_specRepeat_ok)
set_option maxRecDepth 100000 in
set_option maxHeartbeats 4000000 in
theorem specPad (n wide : Int) (hn : inR .i64 n) (hw : -1000000 ≤ wide ∧ wide ≤ 9223372036854775807) : SpecE Try.prog 170 [] [.int .i64 n, .int .i64 wide] [] (.str (padS n wide)) := by
  refine specF0 (C := T_specPad) (wr := false) (D := fun _ => []) (U := fun _ => none) (res := [.str (padS n wide)]) Try.Ty.mixed T_specPad_ok Try.func170 (nA := 2) (by decide +kernel) rfl (fun _ => rfl) ?_
  simp only [Try.f170, bodyOf, rlOf]
  rw [W_V]
  simp (config := {maxSteps := 2000000}) only [T_specPad, Go.Proofs.Try.Dig.tb_specText, Go.Proofs.Try.Lib.tb_specRepeat, go_sem, reduceIte, Nat.reduceEqDiff, Nat.reduceAdd, Nat.reduceMul, Nat.reduceSub, Nat.reduceBEq, Nat.reduceLT, Nat.reduceLeDiff, reduceCtorEq, Int.reduceNeg, Int.reduceEq, String.reduceEq, Int.reduceLT, Int.reduceLE, Int.reduceToNat, Int.reduceAdd, Int.reduceMul, Int.reduceSub]
  (try simp (config := {maxSteps := 2000000}) only [gimp, impB, isT, go_sem, reduceIte, Nat.reduceEqDiff, Nat.reduceAdd, Nat.reduceMul, Nat.reduceSub, Nat.reduceBEq, Nat.reduceLT, Nat.reduceLeDiff, reduceCtorEq, Int.reduceNeg, Int.reduceEq, String.reduceEq, Int.reduceLT, Int.reduceLE, Int.reduceToNat, Int.reduceAdd, Int.reduceMul, Int.reduceSub])
  have h1 := textI_len n
  simp only [inR] at hn
  refine ⟨hn, fun h => by simp [padS, h], fun h => ?_⟩
  simp only [repeatL_one]
  refine ⟨by omega, by omega, by simp only [List.length_replicate]; omega, ?_⟩
  simp [padS, Int.not_lt.2 h]
def tb_specPad : List Blk → List AV → Option (List Blk × AV × Prop)
  | [], [.int .i64 n, .int .i64 wide] => some ([], .str (padS n wide), (inR .i64 n) ∧ (-1000000 ≤ wide ∧ wide ≤ 9223372036854775807))
  | _, _ => none
theorem tb_specPad_ok : ∀ E args E' res p, tb_specPad E args = some (E', res, p) → p → SpecE Try.prog 170 E args E' res := by
  intro E args E' res p h hp
  unfold tb_specPad at h
  split at h
  · simp only [Option.some.injEq, Prod.mk.injEq] at h
    obtain ⟨rfl, rfl, rfl⟩ := h
    exact (specPad _ _ hp.1 hp.2)
  · cases h

def T_specLives : Tbl := fun g E args => (addT (addT (addT (addT (addT nilT 60 Go.Proofs.Try.Dig.tb_specHex) 58 Go.Proofs.Try.Dig.tb_specDec) 170 Go.Proofs.Try.Dig.tb_specPad) 171 Go.Proofs.Try.Dig.tb_specHexText) 153 Go.Proofs.Try.Dig.tb_specText) g E args
theorem T_specLives_ok : TblOK Try.prog T_specLives := (addT_ok (addT_ok (addT_ok (addT_ok (addT_ok nilT_ok (by decide +kernel) Go.Proofs.Try.Dig.tb_specHex_ok) (by decide +kernel) Go.Proofs.Try.Dig.tb_specDec_ok) (by decide +kernel) Go.Proofs.Try.Dig.tb_specPad_ok) (by decide +kernel) Go.Proofs.Try.Dig.tb_specHexText_ok) (by decide +kernel) Go.Proofs.Try.Dig.tb_specText_ok)
set_option maxRecDepth 100000 in
set_option maxHeartbeats 4000000 in
theorem specLives : SpecE Try.prog 61 [] [] [] (.bool true) := by
  refine specF0 (C := T_specLives) (wr := false) (D := fun _ => []) (U := fun _ => none) (res := [.bool true]) Try.Ty.mixed T_specLives_ok Try.func61 (nA := 0) (by decide +kernel) rfl (fun _ => rfl) ?_
  simp only [Try.f61, bodyOf, rlOf]
  rw [W_V]
  simp (config := {maxSteps := 2000000}) only [T_specLives, Go.Proofs.Try.Dig.tb_specHex, Go.Proofs.Try.Dig.tb_specDec, Go.Proofs.Try.Dig.tb_specPad, Go.Proofs.Try.Dig.tb_specHexText, Go.Proofs.Try.Dig.tb_specText, go_sem, reduceIte, Nat.reduceEqDiff, Nat.reduceAdd, Nat.reduceMul, Nat.reduceSub, Nat.reduceBEq, Nat.reduceLT, Nat.reduceLeDiff, reduceCtorEq, Int.reduceNeg, Int.reduceEq, String.reduceEq, Int.reduceLT, Int.reduceLE, Int.reduceToNat, Int.reduceAdd, Int.reduceMul, Int.reduceSub]
  (try simp (config := {maxSteps := 2000000}) only [gimp, impB, isT, go_sem, reduceIte, Nat.reduceEqDiff, Nat.reduceAdd, Nat.reduceMul, Nat.reduceSub, Nat.reduceBEq, Nat.reduceLT, Nat.reduceLeDiff, reduceCtorEq, Int.reduceNeg, Int.reduceEq, String.reduceEq, Int.reduceLT, Int.reduceLE, Int.reduceToNat, Int.reduceAdd, Int.reduceMul, Int.reduceSub])
  decide +kernel
def tb_specLives : List Blk → List AV → Option (List Blk × AV × Prop)
  | [], [] => some ([], .bool true, True)
  | _, _ => none
theorem tb_specLives_ok : ∀ E args E' res p, tb_specLives E args = some (E', res, p) → p → SpecE Try.prog 61 E args E' res := by
  intro E args E' res p h hp
  unfold tb_specLives at h
  split at h
  · simp only [Option.some.injEq, Prod.mk.injEq] at h
    obtain ⟨rfl, rfl, rfl⟩ := h
    exact specLives
  · cases h

def T_specLawRead : Tbl := fun g E args => (addT (addT (addT (addT nilT 58 Go.Proofs.Try.Dig.tb_specDec) 60 Go.Proofs.Try.Dig.tb_specHex) 59 Go.Proofs.Try.Dig.tb_specNumberR) 61 Go.Proofs.Try.Dig.tb_specLives) g E args
theorem T_specLawRead_ok : TblOK Try.prog T_specLawRead := (addT_ok (addT_ok (addT_ok (addT_ok nilT_ok (by decide +kernel) Go.Proofs.Try.Dig.tb_specDec_ok) (by decide +kernel) Go.Proofs.Try.Dig.tb_specHex_ok) (by decide +kernel) Go.Proofs.Try.Dig.tb_specNumberR_ok) (by decide +kernel) Go.Proofs.Try.Dig.tb_specLives_ok)
set_option maxRecDepth 100000 in
set_option maxHeartbeats 4000000 in
theorem specLawRead (s : List UInt8) (most : Int) (hs : s.length ≤ maxLen) (hm : inR .i64 most) : SpecE Try.prog 12 [] [.str s, .int .i64 most] [] (.bool true) := by
  refine specF0 (C := T_specLawRead) (wr := false) (D := fun _ => []) (U := fun _ => none) (res := [.bool true]) Try.Ty.mixed T_specLawRead_ok Try.func12 (nA := 2) (by decide +kernel) rfl (fun _ => rfl) ?_
  simp only [Try.f12, bodyOf, rlOf]
  rw [W_V]
  simp (config := {maxSteps := 2000000}) only [T_specLawRead, Go.Proofs.Try.Dig.tb_specDec, Go.Proofs.Try.Dig.tb_specHex, Go.Proofs.Try.Dig.tb_specNumberR, Go.Proofs.Try.Dig.tb_specLives, go_sem, reduceIte, Nat.reduceEqDiff, Nat.reduceAdd, Nat.reduceMul, Nat.reduceSub, Nat.reduceBEq, Nat.reduceLT, Nat.reduceLeDiff, reduceCtorEq, Int.reduceNeg, Int.reduceEq, String.reduceEq, Int.reduceLT, Int.reduceLE, Int.reduceToNat, Int.reduceAdd, Int.reduceMul, Int.reduceSub]
  (try simp (config := {maxSteps := 2000000}) only [gimp, impB, isT, go_sem, reduceIte, Nat.reduceEqDiff, Nat.reduceAdd, Nat.reduceMul, Nat.reduceSub, Nat.reduceBEq, Nat.reduceLT, Nat.reduceLeDiff, reduceCtorEq, Int.reduceNeg, Int.reduceEq, String.reduceEq, Int.reduceLT, Int.reduceLE, Int.reduceToNat, Int.reduceAdd, Int.reduceMul, Int.reduceSub])
  simp only [inR] at hm
  refine ⟨hm.2, ⟨hm.2, ?_⟩, hm.2, hm.2, ?_⟩ <;> (simp only [List.length_take]; omega)
def tb_specLawRead : List Blk → List AV → Option (List Blk × AV × Prop)
  | [], [.str s, .int .i64 most] => some ([], .bool true, (s.length ≤ maxLen) ∧ (inR .i64 most))
  | _, _ => none
theorem tb_specLawRead_ok : ∀ E args E' res p, tb_specLawRead E args = some (E', res, p) → p → SpecE Try.prog 12 E args E' res := by
  intro E args E' res p h hp
  unfold tb_specLawRead at h
  split at h
  · simp only [Option.some.injEq, Prod.mk.injEq] at h
    obtain ⟨rfl, rfl, rfl⟩ := h
    exact (specLawRead _ _ hp.1 hp.2)
  · cases h
end Go.Proofs.Try.Dig
