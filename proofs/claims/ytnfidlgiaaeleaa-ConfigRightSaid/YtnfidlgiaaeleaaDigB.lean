/- digits: the walks over the library; the statement DigitsRead. No condition. -/
import Derived.Test.YtnfidlgiaaeleaaDig
import Derived.Test.YtnfidlgiaaeleaaLibS
set_option linter.unusedVariables false
set_option linter.unusedSimpArgs false
namespace Go.Proofs.Try.Dig
open Go Go.Abs Go.Proofs Go.Mdl

def T_specPad : Tbl := fun g E args => (addT (addT nilT 39 Go.Proofs.Try.Dig.tb_specText) 87 Go.Proofs.Try.Lib.tb_specRepeat) g E args
theorem T_specPad_ok : TblOK Try.prog T_specPad := (addT_ok (addT_ok nilT_ok (by decide +kernel) Go.Proofs.Try.Dig.tb_specText_ok) (by decide +kernel) Go.Proofs.Try.Lib.tb_specRepeat_ok)
set_option maxRecDepth 100000 in
set_option maxHeartbeats 4000000 in
theorem specPad (n wide : Int) (hn : inR .i64 n) (hw : -1000000 ≤ wide ∧ wide ≤ 9223372036854775807) : SpecE Try.prog 53 [] [.int .i64 n, .int .i64 wide] [] (.str (padS n wide)) := by
  refine specF0 (C := T_specPad) (wr := false) (D := fun _ => []) (U := fun _ => none) (res := [.str (padS n wide)]) Try.Ty.mixed T_specPad_ok Try.func53 (nA := 2) (by decide +kernel) rfl (fun _ => rfl) ?_
  simp only [Try.f53, bodyOf, rlOf]
  rw [W_V]
  simp (config := {maxSteps := 2000000}) only [T_specPad, Go.Proofs.Try.Dig.tb_specText, Go.Proofs.Try.Lib.tb_specRepeat, go_sem, reduceIte, Nat.reduceEqDiff, Nat.reduceAdd, Nat.reduceMul, Nat.reduceDiv, Nat.reduceMod, Nat.reduceSub, Nat.reduceBEq, Nat.reduceLT, Nat.reduceLeDiff, reduceCtorEq, Int.reduceNeg, Int.reduceEq, String.reduceEq, Int.reduceLT, Int.reduceLE, Int.reduceToNat, Int.reduceAdd, Int.reduceMul, Int.reduceSub]
  (try simp (config := {maxSteps := 2000000}) only [gimp, impB, isT, go_sem, reduceIte, Nat.reduceEqDiff, Nat.reduceAdd, Nat.reduceMul, Nat.reduceDiv, Nat.reduceMod, Nat.reduceSub, Nat.reduceBEq, Nat.reduceLT, Nat.reduceLeDiff, reduceCtorEq, Int.reduceNeg, Int.reduceEq, String.reduceEq, Int.reduceLT, Int.reduceLE, Int.reduceToNat, Int.reduceAdd, Int.reduceMul, Int.reduceSub])
  have h1 := textI_len n
  simp only [inR] at hn
  refine ⟨hn, fun h => by simp [padS, h], fun h => ?_⟩
  simp only [repeatL_one]
  refine ⟨by omega, by omega, by simp only [List.length_replicate]; omega, ?_⟩
  simp [padS, Int.not_lt.2 h]
def tb_specPad : List Blk → List AV → Option (List Blk × AV × Prop)
  | [], [.int .i64 n, .int .i64 wide] => some ([], .str (padS n wide), (inR .i64 n) ∧ (-1000000 ≤ wide ∧ wide ≤ 9223372036854775807))
  | _, _ => none
theorem tb_specPad_ok : ∀ E args E' res p, tb_specPad E args = some (E', res, p) → p → SpecE Try.prog 53 E args E' res := by
  intro E args E' res p h hp
  unfold tb_specPad at h
  split at h
  · simp only [Option.some.injEq, Prod.mk.injEq] at h
    obtain ⟨rfl, rfl, rfl⟩ := h
    exact (specPad _ _ hp.1 hp.2)
  · cases h


end Go.Proofs.Try.Dig
