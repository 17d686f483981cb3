/- header: the walks of what takes out and puts in. No condition beyond those that a machine's numbers bring. -/
import Derived.Test.YtanpmebamgnhbaaHdrW
set_option linter.unusedVariables false
set_option linter.unusedSimpArgs false
namespace Go.Proofs.Try.Hdr
open Go Go.Abs Go.Proofs Go.Mdl

def T_specSetA : Tbl := fun g E args => (addT (addT (addT (addT (addT nilT 190 Go.Proofs.Try.Hdr.tb_specNamed) 189 Go.Proofs.Try.Hdr.tb_specIdx) 109 Go.Proofs.Try.Hdr.tb_specWith) 192 Go.Proofs.Try.Hdr.tb_specClone) 191 Go.Proofs.Try.Hdr.tb_specDel) g E args
theorem T_specSetA_ok : TblOK Try.prog T_specSetA := (addT_ok (addT_ok (addT_ok (addT_ok (addT_ok nilT_ok (by decide +kernel) Go.Proofs.Try.Hdr.tb_specNamed_ok) (by decide +kernel) Go.Proofs.Try.Hdr.tb_specIdx_ok) (by decide +kernel) Go.Proofs.Try.Hdr.tb_specWith_ok) (by decide +kernel) Go.Proofs.Try.Hdr.tb_specClone_ok) (by decide +kernel) Go.Proofs.Try.Hdr.tb_specDel_ok)
set_option maxRecDepth 100000 in
set_option maxHeartbeats 4000000 in
theorem specSetA (l : List Fld) (n v : List UInt8) (hl : l.length ≤ 1000000) (hn : n.length ≤ maxLen) (hf : hasF l n = false) : SpecE Try.prog 182 [] [enc_flds l, .str n, .str v] [.cells 2 false (.agg [.str [], .str []]) ((setS l n v).map enc_fld)] (.ref 0 0 (setS l n v).length (setS l n v).length) := by
  refine specFE (C := T_specSetA) (wr := false) (D := fun i => if i = 5 then [9] else []) (U := fun _ => none) (E := []) (E' := [.cells 2 false (.agg [.str [], .str []]) ((setS l n v).map enc_fld)]) (res := [.ref 0 0 (setS l n v).length (setS l n v).length]) [352] Try.Ty.mixed T_specSetA_ok Try.func182 (nE := 0) (nA := 3) (by decide +kernel) rfl rfl ?_
  simp only [Try.f182, bodyOf, rlOf]
  rw [W_V]
  simp (config := {maxSteps := 2000000}) only [T_specSetA, Go.Proofs.Try.Hdr.tb_specNamed, Go.Proofs.Try.Hdr.tb_specIdx, Go.Proofs.Try.Hdr.tb_specWith, Go.Proofs.Try.Hdr.tb_specClone, Go.Proofs.Try.Hdr.tb_specDel, go_sem, reduceIte, Nat.reduceEqDiff, Nat.reduceAdd, Nat.reduceMul, Nat.reduceSub, Nat.reduceBEq, Nat.reduceLT, Nat.reduceLeDiff, reduceCtorEq, Int.reduceNeg, Int.reduceEq, String.reduceEq, Int.reduceLT, Int.reduceLE, Int.reduceToNat, Int.reduceAdd, Int.reduceMul, Int.reduceSub, true_and]
  (try simp (config := {maxSteps := 2000000}) only [gimp, impB, isT, go_sem, reduceIte, Nat.reduceEqDiff, Nat.reduceAdd, Nat.reduceMul, Nat.reduceSub, Nat.reduceBEq, Nat.reduceLT, Nat.reduceLeDiff, reduceCtorEq, Int.reduceNeg, Int.reduceEq, String.reduceEq, Int.reduceLT, Int.reduceLE, Int.reduceToNat, Int.reduceAdd, Int.reduceMul, Int.reduceSub])
  have hm : (1000000 : Nat) ≤ maxLen := by decide
  have hi : idxP (isN [n]) l = -1 := idxP_none hf
  rw [hi]
  refine ⟨⟨by decide, hn, by omega⟩, fun _ => ⟨hl, ?_⟩, fun h => by omega⟩
  have e : setS l n v = withS l n v := by simp [setS, hf]
  rw [e]
  exact ⟨rfl, rfl⟩

def T_specSetB : Tbl := fun g E args => (addT (addT (addT (addT (addT nilT 190 Go.Proofs.Try.Hdr.tb_specNamed) 189 Go.Proofs.Try.Hdr.tb_specIdx) 109 Go.Proofs.Try.Hdr.tb_specWith) 192 Go.Proofs.Try.Hdr.tb_specClone) 191 Go.Proofs.Try.Hdr.tb_specDel) g E args
theorem T_specSetB_ok : TblOK Try.prog T_specSetB := (addT_ok (addT_ok (addT_ok (addT_ok (addT_ok nilT_ok (by decide +kernel) Go.Proofs.Try.Hdr.tb_specNamed_ok) (by decide +kernel) Go.Proofs.Try.Hdr.tb_specIdx_ok) (by decide +kernel) Go.Proofs.Try.Hdr.tb_specWith_ok) (by decide +kernel) Go.Proofs.Try.Hdr.tb_specClone_ok) (by decide +kernel) Go.Proofs.Try.Hdr.tb_specDel_ok)
set_option maxRecDepth 100000 in
set_option maxHeartbeats 4000000 in
theorem specSetB (l : List Fld) (n v : List UInt8) (hl : l.length ≤ 1000000) (hn : n.length ≤ maxLen) (hf : hasF l n = true) : SpecE Try.prog 182 [] [enc_flds l, .str n, .str v] [.cells 2 false (.agg [.str [], .str []]) ((setS l n v).map enc_fld)] (.ref 0 0 (setS l n v).length (setS l n v).length) := by
  refine specFE (C := T_specSetB) (wr := false) (D := fun i => if i = 5 then [9] else []) (U := fun _ => none) (E := []) (E' := [.cells 2 false (.agg [.str [], .str []]) ((setS l n v).map enc_fld)]) (res := [.ref 0 0 (setS l n v).length (setS l n v).length]) [512] Try.Ty.mixed T_specSetB_ok Try.func182 (nE := 0) (nA := 3) (by decide +kernel) rfl rfl ?_
  simp only [Try.f182, bodyOf, rlOf]
  rw [W_V]
  simp (config := {maxSteps := 2000000}) only [T_specSetB, Go.Proofs.Try.Hdr.tb_specNamed, Go.Proofs.Try.Hdr.tb_specIdx, Go.Proofs.Try.Hdr.tb_specWith, Go.Proofs.Try.Hdr.tb_specClone, Go.Proofs.Try.Hdr.tb_specDel, go_sem, reduceIte, Nat.reduceEqDiff, Nat.reduceAdd, Nat.reduceMul, Nat.reduceSub, Nat.reduceBEq, Nat.reduceLT, Nat.reduceLeDiff, reduceCtorEq, Int.reduceNeg, Int.reduceEq, String.reduceEq, Int.reduceLT, Int.reduceLE, Int.reduceToNat, Int.reduceAdd, Int.reduceMul, Int.reduceSub, true_and]
  (try simp (config := {maxSteps := 2000000}) only [gimp, impB, isT, go_sem, reduceIte, Nat.reduceEqDiff, Nat.reduceAdd, Nat.reduceMul, Nat.reduceSub, Nat.reduceBEq, Nat.reduceLT, Nat.reduceLeDiff, reduceCtorEq, Int.reduceNeg, Int.reduceEq, String.reduceEq, Int.reduceLT, Int.reduceLE, Int.reduceToNat, Int.reduceAdd, Int.reduceMul, Int.reduceSub])
  have hm : (1000000 : Nat) ≤ maxLen := by decide
  have hf2 : l.any (isN [n]) = true := hf
  have hi : idxP (isN [n]) l = ((l.findIdx (isN [n]) : Nat) : Int) := by unfold idxP; rw [if_pos hf2]
  have hx : l.findIdx (isN [n]) < l.length := List.findIdx_lt_length.2 (List.any_eq_true.1 hf)
  have e : setS l n v = l.take (l.findIdx (isN [n])) ++ ((l.getD (l.findIdx (isN [n])) ([], [])).1, v) :: withoutS (l.drop (l.findIdx (isN [n]) + 1)) [n] := by
    simp only [setS, hf, if_true]
  rw [hi, e]
  generalize l.findIdx (isN [n]) = x at *
  have e1 : ((x : Int) + 1).toNat = x + 1 := by omega
  rw [e1, Int.toNat_natCast]
  have e2 : (delP ([], []) (isN [n]) (l.drop (x + 1))).take (withoutS (l.drop (x + 1)) [n]).length = withoutS (l.drop (x + 1)) [n] := delP_take _ _ _
  rw [e2, delP_len]
  have e3 : (withoutS (l.drop (x + 1)) [n]).length ≤ l.length := by
    have := List.length_filter_le (fun f => !isN [n] f) (l.drop (x + 1))
    simp only [withoutS]
    rw [List.length_drop] at this
    omega
  have e4 : (withS (l.take x) (l.getD x ([], [])).1 v).length = x + 1 := by simp [withS]; omega
  rw [e4]
  have e5 : (l.take x).length ≤ 1000000 := by rw [List.length_take]; omega
  have e6 : (l.drop (x + 1)).length ≤ 1000000 := by rw [List.length_drop]; omega
  refine ⟨⟨by decide, hn, by omega⟩, fun h => by omega, fun _ => ⟨by omega, by omega, e5, by omega, by omega, e6, ⟨by decide, hn, e6⟩, ⟨rfl, by omega, by omega⟩, ?_, ?_⟩⟩
  · simp; omega
  · simp [withS]

def T_specSet : Tbl := fun g E args => nilT g E args
theorem T_specSet_ok : TblOK Try.prog T_specSet := nilT_ok
set_option maxRecDepth 100000 in
set_option maxHeartbeats 4000000 in
theorem specSet (l : List Fld) (n v : List UInt8) (hl : l.length ≤ 1000000) (hn : n.length ≤ maxLen) : SpecE Try.prog 182 [] [enc_flds l, .str n, .str v] [.cells 2 false (.agg [.str [], .str []]) ((setS l n v).map enc_fld)] (.ref 0 0 (setS l n v).length (setS l n v).length) := by
  cases hf : hasF l n with | false => exact specSetA l n v hl hn hf | true => exact specSetB l n v hl hn hf
def tb_specSet : List Blk → List AV → Option (List Blk × AV × Prop)
  | [], [a0, .str n, .str v] => some ([.cells 2 false (.agg [.str [], .str []]) ((setS (dec_flds a0) n v).map enc_fld)], .ref 0 0 (setS (dec_flds a0) n v).length (setS (dec_flds a0) n v).length, ((dec_flds a0).length ≤ 1000000) ∧ (n.length ≤ maxLen) ∧ argOK a0 (enc_flds (dec_flds a0)))
  | _, _ => none
theorem tb_specSet_ok : ∀ E args E' res p, tb_specSet E args = some (E', res, p) → p → SpecE Try.prog 182 E args E' res := by
  intro E args E' res p h hp
  unfold tb_specSet at h
  split at h
  · simp only [Option.some.injEq, Prod.mk.injEq] at h
    obtain ⟨rfl, rfl, rfl⟩ := h
    exact SpecE.args (specSet _ _ _ hp.1 hp.2.1) (.cons hp.2.2 (.cons (argOK.refl _) (.cons (argOK.refl _) .nil)))
  · cases h
end Go.Proofs.Try.Hdr
