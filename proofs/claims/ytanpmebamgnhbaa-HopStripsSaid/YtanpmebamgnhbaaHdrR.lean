/- header: the walks of what the law leans on. No condition beyond those that a machine's numbers bring. -/
import Derived.Test.YtanpmebamgnhbaaHdrX
import Derived.Test.YtanpmebamgnhbaaOctC
set_option linter.unusedVariables false
set_option linter.unusedSimpArgs false
namespace Go.Proofs.Try.HdrR
open Go Go.Abs Go.Proofs Go.Mdl

def T_specIs : Tbl := fun g E args => (addT nilT 50 Go.Proofs.Try.Oct.tb_specLowerR) g E args
theorem T_specIs_ok : TblOK Try.prog T_specIs := (addT_ok nilT_ok (by decide +kernel) Go.Proofs.Try.Oct.tb_specLowerR_ok)
set_option maxRecDepth 100000 in
set_option maxHeartbeats 4000000 in
theorem specIs (a b : List UInt8) (ha : a.length ≤ 1000000) (hb : b.length ≤ 1000000) : SpecE Try.prog 267 [] [.str a, .str b] [] (.bool (decide (lowerS a = lowerS b))) := by
  refine specF0 (C := T_specIs) (wr := false) (D := fun _ => []) (U := fun _ => none) (res := [.bool (decide (lowerS a = lowerS b))]) Try.Ty.mixed T_specIs_ok Try.func267 (nA := 2) (by decide +kernel) rfl (fun _ => rfl) ?_
  simp only [Try.f267, bodyOf, rlOf]
  rw [W_V]
  simp (config := {maxSteps := 2000000}) only [T_specIs, Go.Proofs.Try.Oct.tb_specLowerR, go_sem, reduceIte, Nat.reduceEqDiff, Nat.reduceAdd, Nat.reduceMul, Nat.reduceSub, Nat.reduceBEq, Nat.reduceLT, Nat.reduceLeDiff, reduceCtorEq, Int.reduceNeg, Int.reduceEq, String.reduceEq, Int.reduceLT, Int.reduceLE, Int.reduceToNat, Int.reduceAdd, Int.reduceMul, Int.reduceSub]
  (try simp (config := {maxSteps := 2000000}) only [gimp, impB, isT, go_sem, reduceIte, Nat.reduceEqDiff, Nat.reduceAdd, Nat.reduceMul, Nat.reduceSub, Nat.reduceBEq, Nat.reduceLT, Nat.reduceLeDiff, reduceCtorEq, Int.reduceNeg, Int.reduceEq, String.reduceEq, Int.reduceLT, Int.reduceLE, Int.reduceToNat, Int.reduceAdd, Int.reduceMul, Int.reduceSub])
  exact ⟨ha, hb⟩
def tb_specIs : List Blk → List AV → Option (List Blk × AV × Prop)
  | [], [.str a, .str b] => some ([], .bool (decide (lowerS a = lowerS b)), (a.length ≤ 1000000) ∧ (b.length ≤ 1000000))
  | _, _ => none
theorem tb_specIs_ok : ∀ E args E' res p, tb_specIs E args = some (E', res, p) → p → SpecE Try.prog 267 E args E' res := by
  intro E args E' res p h hp
  unfold tb_specIs at h
  split at h
  · simp only [Option.some.injEq, Prod.mk.injEq] at h
    obtain ⟨rfl, rfl, rfl⟩ := h
    exact (specIs _ _ hp.1 hp.2)
  · cases h

def T_specWith : Tbl := fun g E args => nilT g E args
theorem T_specWith_ok : TblOK Try.prog T_specWith := nilT_ok
set_option maxRecDepth 100000 in
set_option maxHeartbeats 4000000 in
theorem specWith (l : List Fld) (n v : List UInt8) (hl : l.length ≤ 1000000) : SpecE Try.prog 268 [] [enc_flds l, .str n, .str v] [.cells 2 false (.agg [.str [], .str []]) ((withS l n v).map enc_fld)] (.ref 0 0 (withS l n v).length (withS l n v).length) := by
  refine specFE (C := T_specWith) (wr := false) (D := fun _ => []) (U := fun _ => none) (E := []) (E' := [.cells 2 false (.agg [.str [], .str []]) ((withS l n v).map enc_fld)]) (res := [.ref 0 0 (withS l n v).length (withS l n v).length]) [128] Try.Ty.mixed T_specWith_ok Try.func268 (nE := 0) (nA := 3) (by decide +kernel) rfl rfl ?_
  simp only [Try.f268, bodyOf, rlOf]
  rw [W_V]
  simp (config := {maxSteps := 2000000}) only [T_specWith, go_sem, reduceIte, Nat.reduceEqDiff, Nat.reduceAdd, Nat.reduceMul, Nat.reduceSub, Nat.reduceBEq, Nat.reduceLT, Nat.reduceLeDiff, reduceCtorEq, Int.reduceNeg, Int.reduceEq, String.reduceEq, Int.reduceLT, Int.reduceLE, Int.reduceToNat, Int.reduceAdd, Int.reduceMul, Int.reduceSub, true_and]
  (try simp (config := {maxSteps := 2000000}) only [gimp, impB, isT, go_sem, reduceIte, Nat.reduceEqDiff, Nat.reduceAdd, Nat.reduceMul, Nat.reduceSub, Nat.reduceBEq, Nat.reduceLT, Nat.reduceLeDiff, reduceCtorEq, Int.reduceNeg, Int.reduceEq, String.reduceEq, Int.reduceLT, Int.reduceLE, Int.reduceToNat, Int.reduceAdd, Int.reduceMul, Int.reduceSub])
  refine ⟨by omega, ⟨by omega, by omega, by omega⟩, by simp [withS], by simp [withS, enc_fld]⟩
def tb_specWith : List Blk → List AV → Option (List Blk × AV × Prop)
  | [], [a0, .str n, .str v] => some ([.cells 2 false (.agg [.str [], .str []]) ((withS (dec_flds a0) n v).map enc_fld)], .ref 0 0 (withS (dec_flds a0) n v).length (withS (dec_flds a0) n v).length, ((dec_flds a0).length ≤ 1000000) ∧ argOK a0 (enc_flds (dec_flds a0)))
  | _, _ => none
theorem tb_specWith_ok : ∀ E args E' res p, tb_specWith E args = some (E', res, p) → p → SpecE Try.prog 268 E args E' res := by
  intro E args E' res p h hp
  unfold tb_specWith at h
  split at h
  · simp only [Option.some.injEq, Prod.mk.injEq] at h
    obtain ⟨rfl, rfl, rfl⟩ := h
    exact SpecE.args (specWith _ _ _ hp.1) (.cons hp.2 (.cons (argOK.refl _) (.cons (argOK.refl _) .nil)))
  · cases h
end Go.Proofs.Try.HdrR
