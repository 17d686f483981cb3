/- header: the walks of what takes out and puts in. No condition beyond those that a machine's numbers bring. -/
import Derived.Test.YtanpmebamgnhbaaHdrW
set_option linter.unusedVariables false
set_option linter.unusedSimpArgs false
namespace Go.Proofs.Try.Hdr
open Go Go.Abs Go.Proofs Go.Mdl

def T_specSetA : Tbl := fun g E args => (addT (addT (addT (addT (addT nilT 190 Go.Proofs.Try.Hdr.tb_specNamed) 189 Go.Proofs.Try.Hdr.tb_specIdx) 109 Go.Proofs.Try.Hdr.tb_specWith) 192 Go.Proofs.Try.Hdr.tb_specClone) 191 Go.Proofs.Try.Hdr.tb_specDel) g E args
theorem T_specSetA_ok : TblOK Try.prog T_specSetA := (addT_ok (addT_ok (addT_ok (addT_ok (addT_ok nilT_ok (by decide +kernel) Go.Proofs.Try.Hdr.tb_specNamed_ok) (by decide +kernel) Go.Proofs.Try.Hdr.tb_specIdx_ok) (by decide +kernel) Go.Proofs.Try.Hdr.tb_specWith_ok) (by decide +kernel) Go.Proofs.Try.Hdr.tb_specClone_ok) (by decide +kernel) Go.Proofs.Try.Hdr.tb_specDel_ok)
set_option maxRecDepth 100000 in
set_option maxHeartbeats 4000000 in
theorem specSetA (l : List Fld) (n v : List UInt8) (hl : l.length ≤ 1000000) (hn : n.length ≤ maxLen) (hf : hasF l n = false) : SpecE Try.prog 182 [] [enc_flds l, .str n, .str v] [.cells 2 false (.agg [.str [], .str []]) ((setS l n v).map enc_fld)] (.ref 0 0 (setS l n v).length (setS l n v).length) := by
  refine specFE (C := T_specSetA) (wr := false) (D := fun i => if i = 5 then [9] else []) (U := fun _ => none) (E := []) (E' := [.cells 2 false (.agg [.str [], .str []]) ((setS l n v).map enc_fld)]) (res := [.ref 0 0 (setS l n v).length (setS l n v).length]) [352] Try.Ty.mixed T_specSetA_ok Try.func182 (nE := 0) (nA := 3) (by decide +kernel) rfl rfl ?_
  simp only [Try.f182, bodyOf, rlOf]
  rw [W_V]
  simp (config := {maxSteps := 2000000}) only [T_specSetA, Go.Proofs.Try.Hdr.tb_specNamed, Go.Proofs.Try.Hdr.tb_specIdx, Go.Proofs.Try.Hdr.tb_specWith, Go.Proofs.Try.Hdr.tb_specClone, Go.Proofs.Try.Hdr.tb_specDel, go_sem, go_sem, reduceIte, Nat.reduceEqDiff, Nat.reduceAdd, Nat.reduceMul, Nat.reduceSub, Nat.reduceBEq, Nat.reduceLT, Nat.reduceLeDiff, reduceCtorEq, Int.reduceNeg, Int.reduceEq, String.reduceEq, Int.reduceLT, Int.reduceLE, Int.reduceToNat, Int.reduceAdd, Int.reduceMul, Int.reduceSub, Try.Ty.g1, Try.underlying1, Try.underlying2, Try.Ty.s2, Try.Ty.b2, Try.Ty.a2, Try.Ty.z2, Try.underlying3, Try.Ty.s3, Try.Ty.b3, Try.Ty.a3, Try.Ty.z3, Try.underlying4, Try.Ty.s4, Try.Ty.b4, Try.Ty.a4, Try.Ty.z4, Try.underlying5, Try.Ty.s5, Try.Ty.b5, Try.Ty.a5, Try.Ty.z5, Try.underlying6, Try.Ty.s6, Try.Ty.b6, Try.Ty.a6, Try.Ty.z6, Try.underlying7, Try.Ty.s7, Try.Ty.b7, Try.Ty.a7, Try.Ty.g7, Try.Ty.h7, Try.Ty.z7, Try.underlying9, Try.Ty.s9, Try.Ty.b9, Try.Ty.a9, Try.Ty.z9, Try.Ty.g60, Try.underlying60, Try.Ty.s60, Try.Ty.b60, Try.Ty.a60, Try.Ty.z60, Try.Ty.g63, Try.underlying63, Try.Ty.g64, Try.underlying64, Try.underlying66, Try.Ty.s66, Try.Ty.b66, Try.Ty.a66, Try.Ty.g66, Try.Ty.h66, Try.Ty.z66, Try.underlying68, Try.Ty.s68, Try.Ty.b68, Try.Ty.a68, Try.Ty.g68, Try.Ty.h68, Try.Ty.z68, Try.Ty.g70, Try.underlying70, Try.underlying73, Try.Ty.s73, Try.Ty.b73, Try.Ty.a73, Try.Ty.g73, Try.Ty.h73, Try.Ty.z73, Try.Ty.g96, Try.underlying96, Try.Ty.g109, Try.underlying109, Try.underlying111, Try.Ty.s111, Try.Ty.b111, Try.Ty.a111, Try.Ty.g111, Try.Ty.h111, Try.Ty.z111, Try.Ty.g160, Try.underlying160, Try.Ty.g161, Try.underlying161, Try.Ty.g162, Try.underlying162, Try.Ty.g163, Try.underlying163, Try.underlying189, Try.Ty.s189, Try.Ty.b189, Try.Ty.a189, Try.Ty.g189, Try.Ty.h189, Try.Ty.z189, Try.Ty.g190, Try.underlying190, Try.Ty.g191, Try.underlying191, Try.Ty.g192, Try.underlying192, Try.Ty.g1, Try.underlying1, Try.underlying2, Try.Ty.s2, Try.Ty.b2, Try.Ty.a2, Try.Ty.z2, Try.underlying3, Try.Ty.s3, Try.Ty.b3, Try.Ty.a3, Try.Ty.z3, Try.underlying4, Try.Ty.s4, Try.Ty.b4, Try.Ty.a4, Try.Ty.z4, Try.underlying5, Try.Ty.s5, Try.Ty.b5, Try.Ty.a5, Try.Ty.z5, Try.underlying6, Try.Ty.s6, Try.Ty.b6, Try.Ty.a6, Try.Ty.z6, Try.underlying7, Try.Ty.s7, Try.Ty.b7, Try.Ty.a7, Try.Ty.g7, Try.Ty.h7, Try.Ty.z7, Try.underlying9, Try.Ty.s9, Try.Ty.b9, Try.Ty.a9, Try.Ty.z9, Try.underlying21, Try.Ty.s21, Try.Ty.b21, Try.Ty.a21, Try.Ty.z21, Try.Ty.g22, Try.underlying22, Try.Ty.s22, Try.Ty.b22, Try.Ty.a22, Try.Ty.z22, Try.Ty.g24, Try.underlying24, Try.Ty.g29, Try.underlying29, Try.Ty.g60, Try.underlying60, Try.Ty.s60, Try.Ty.b60, Try.Ty.a60, Try.Ty.z60, Try.underlying73, Try.Ty.s73, Try.Ty.b73, Try.Ty.a73, Try.Ty.g73, Try.Ty.h73, Try.Ty.z73, Try.Ty.g157, Try.underlying157, Try.Ty.g161, Try.underlying161, Try.Ty.g162, Try.underlying162, Try.Ty.g190, Try.underlying190]
  (try simp (config := {maxSteps := 2000000}) only [gimp, impB, isT, go_sem, reduceIte, Nat.reduceEqDiff, Nat.reduceAdd, Nat.reduceMul, Nat.reduceSub, Nat.reduceBEq, Nat.reduceLT, Nat.reduceLeDiff, reduceCtorEq, Int.reduceNeg, Int.reduceEq, String.reduceEq, Int.reduceLT, Int.reduceLE, Int.reduceToNat, Int.reduceAdd, Int.reduceMul, Int.reduceSub])
  have hm : (1000000 : Nat) ≤ maxLen := by decide
  have hi : idxP (isN [n]) l = -1 := idxP_none hf
  rw [hi]
  refine ⟨⟨by decide, hn, by omega⟩, fun _ => ⟨hl, ?_⟩, fun h => by omega⟩
  have e : setS l n v = withS l n v := by simp [setS, hf]
  rw [e]
  exact ⟨rfl, rfl⟩

def T_specSetB : Tbl := fun g E args => (addT (addT (addT (addT (addT nilT 190 Go.Proofs.Try.Hdr.tb_specNamed) 189 Go.Proofs.Try.Hdr.tb_specIdx) 109 Go.Proofs.Try.Hdr.tb_specWith) 192 Go.Proofs.Try.Hdr.tb_specClone) 191 Go.Proofs.Try.Hdr.tb_specDel) g E args
theorem T_specSetB_ok : TblOK Try.prog T_specSetB := (addT_ok (addT_ok (addT_ok (addT_ok (addT_ok nilT_ok (by decide +kernel) Go.Proofs.Try.Hdr.tb_specNamed_ok) (by decide +kernel) Go.Proofs.Try.Hdr.tb_specIdx_ok) (by decide +kernel) Go.Proofs.Try.Hdr.tb_specWith_ok) (by decide +kernel) Go.Proofs.Try.Hdr.tb_specClone_ok) (by decide +kernel) Go.Proofs.Try.Hdr.tb_specDel_ok)
set_option maxRecDepth 100000 in
set_option maxHeartbeats 4000000 in
theorem specSetB (l : List Fld) (n v : List UInt8) (hl : l.length ≤ 1000000) (hn : n.length ≤ maxLen) (hf : hasF l n = true) : SpecE Try.prog 182 [] [enc_flds l, .str n, .str v] [.cells 2 false (.agg [.str [], .str []]) ((setS l n v).map enc_fld)] (.ref 0 0 (setS l n v).length (setS l n v).length) := by
  refine specFE (C := T_specSetB) (wr := false) (D := fun i => if i = 5 then [9] else []) (U := fun _ => none) (E := []) (E' := [.cells 2 false (.agg [.str [], .str []]) ((setS l n v).map enc_fld)]) (res := [.ref 0 0 (setS l n v).length (setS l n v).length]) [512] Try.Ty.mixed T_specSetB_ok Try.func182 (nE := 0) (nA := 3) (by decide +kernel) rfl rfl ?_
  simp only [Try.f182, bodyOf, rlOf]
  rw [W_V]
  simp (config := {maxSteps := 2000000}) only [T_specSetB, Go.Proofs.Try.Hdr.tb_specNamed, Go.Proofs.Try.Hdr.tb_specIdx, Go.Proofs.Try.Hdr.tb_specWith, Go.Proofs.Try.Hdr.tb_specClone, Go.Proofs.Try.Hdr.tb_specDel, go_sem, go_sem, reduceIte, Nat.reduceEqDiff, Nat.reduceAdd, Nat.reduceMul, Nat.reduceSub, Nat.reduceBEq, Nat.reduceLT, Nat.reduceLeDiff, reduceCtorEq, Int.reduceNeg, Int.reduceEq, String.reduceEq, Int.reduceLT, Int.reduceLE, Int.reduceToNat, Int.reduceAdd, Int.reduceMul, Int.reduceSub, Try.Ty.g1, Try.underlying1, Try.underlying2, Try.Ty.s2, Try.Ty.b2, Try.Ty.a2, Try.Ty.z2, Try.underlying3, Try.Ty.s3, Try.Ty.b3, Try.Ty.a3, Try.Ty.z3, Try.underlying4, Try.Ty.s4, Try.Ty.b4, Try.Ty.a4, Try.Ty.z4, Try.underlying5, Try.Ty.s5, Try.Ty.b5, Try.Ty.a5, Try.Ty.z5, Try.underlying6, Try.Ty.s6, Try.Ty.b6, Try.Ty.a6, Try.Ty.z6, Try.underlying7, Try.Ty.s7, Try.Ty.b7, Try.Ty.a7, Try.Ty.g7, Try.Ty.h7, Try.Ty.z7, Try.underlying9, Try.Ty.s9, Try.Ty.b9, Try.Ty.a9, Try.Ty.z9, Try.Ty.g60, Try.underlying60, Try.Ty.s60, Try.Ty.b60, Try.Ty.a60, Try.Ty.z60, Try.Ty.g63, Try.underlying63, Try.Ty.g64, Try.underlying64, Try.underlying66, Try.Ty.s66, Try.Ty.b66, Try.Ty.a66, Try.Ty.g66, Try.Ty.h66, Try.Ty.z66, Try.underlying68, Try.Ty.s68, Try.Ty.b68, Try.Ty.a68, Try.Ty.g68, Try.Ty.h68, Try.Ty.z68, Try.Ty.g70, Try.underlying70, Try.underlying73, Try.Ty.s73, Try.Ty.b73, Try.Ty.a73, Try.Ty.g73, Try.Ty.h73, Try.Ty.z73, Try.Ty.g96, Try.underlying96, Try.Ty.g109, Try.underlying109, Try.underlying111, Try.Ty.s111, Try.Ty.b111, Try.Ty.a111, Try.Ty.g111, Try.Ty.h111, Try.Ty.z111, Try.Ty.g160, Try.underlying160, Try.Ty.g161, Try.underlying161, Try.Ty.g162, Try.underlying162, Try.Ty.g163, Try.underlying163, Try.underlying189, Try.Ty.s189, Try.Ty.b189, Try.Ty.a189, Try.Ty.g189, Try.Ty.h189, Try.Ty.z189, Try.Ty.g190, Try.underlying190, Try.Ty.g191, Try.underlying191, Try.Ty.g192, Try.underlying192, Try.Ty.g1, Try.underlying1, Try.underlying2, Try.Ty.s2, Try.Ty.b2, Try.Ty.a2, Try.Ty.z2, Try.underlying3, Try.Ty.s3, Try.Ty.b3, Try.Ty.a3, Try.Ty.z3, Try.underlying4, Try.Ty.s4, Try.Ty.b4, Try.Ty.a4, Try.Ty.z4, Try.underlying5, Try.Ty.s5, Try.Ty.b5, Try.Ty.a5, Try.Ty.z5, Try.underlying6, Try.Ty.s6, Try.Ty.b6, Try.Ty.a6, Try.Ty.z6, Try.underlying7, Try.Ty.s7, Try.Ty.b7, Try.Ty.a7, Try.Ty.g7, Try.Ty.h7, Try.Ty.z7, Try.underlying9, Try.Ty.s9, Try.Ty.b9, Try.Ty.a9, Try.Ty.z9, Try.underlying21, Try.Ty.s21, Try.Ty.b21, Try.Ty.a21, Try.Ty.z21, Try.Ty.g22, Try.underlying22, Try.Ty.s22, Try.Ty.b22, Try.Ty.a22, Try.Ty.z22, Try.Ty.g24, Try.underlying24, Try.Ty.g29, Try.underlying29, Try.Ty.g60, Try.underlying60, Try.Ty.s60, Try.Ty.b60, Try.Ty.a60, Try.Ty.z60, Try.underlying73, Try.Ty.s73, Try.Ty.b73, Try.Ty.a73, Try.Ty.g73, Try.Ty.h73, Try.Ty.z73, Try.Ty.g157, Try.underlying157, Try.Ty.g161, Try.underlying161, Try.Ty.g162, Try.underlying162, Try.Ty.g190, Try.underlying190]
  (try simp (config := {maxSteps := 2000000}) only [gimp, impB, isT, go_sem, reduceIte, Nat.reduceEqDiff, Nat.reduceAdd, Nat.reduceMul, Nat.reduceSub, Nat.reduceBEq, Nat.reduceLT, Nat.reduceLeDiff, reduceCtorEq, Int.reduceNeg, Int.reduceEq, String.reduceEq, Int.reduceLT, Int.reduceLE, Int.reduceToNat, Int.reduceAdd, Int.reduceMul, Int.reduceSub])
  have hm : (1000000 : Nat) ≤ maxLen := by decide
  have hf2 : l.any (isN [n]) = true := hf
  have hi : idxP (isN [n]) l = ((l.findIdx (isN [n]) : Nat) : Int) := by unfold idxP; rw [if_pos hf2]
  have hx : l.findIdx (isN [n]) < l.length := List.findIdx_lt_length.2 (List.any_eq_true.1 hf)
  have e : setS l n v = l.take (l.findIdx (isN [n])) ++ ((l.getD (l.findIdx (isN [n])) ([], [])).1, v) :: withoutS (l.drop (l.findIdx (isN [n]) + 1)) [n] := by
    simp only [setS, hf, if_true]
  rw [hi, e]
  generalize l.findIdx (isN [n]) = x at *
  have e1 : ((x : Int) + 1).toNat = x + 1 := by omega
  rw [e1, Int.toNat_natCast]
  have e2 : (delP ([], []) (isN [n]) (l.drop (x + 1))).take (withoutS (l.drop (x + 1)) [n]).length = withoutS (l.drop (x + 1)) [n] := delP_take _ _ _
  rw [e2, delP_len]
  have e3 : (withoutS (l.drop (x + 1)) [n]).length ≤ l.length := by
    have := List.length_filter_le (fun f => !isN [n] f) (l.drop (x + 1))
    simp only [withoutS]
    rw [List.length_drop] at this
    omega
  have e4 : (withS (l.take x) (l.getD x ([], [])).1 v).length = x + 1 := by simp [withS]; omega
  rw [e4]
  have e5 : (l.take x).length ≤ 1000000 := by rw [List.length_take]; omega
  have e6 : (l.drop (x + 1)).length ≤ 1000000 := by rw [List.length_drop]; omega
  refine ⟨⟨by decide, hn, by omega⟩, fun h => by omega, fun _ => ⟨by omega, by omega, e5, by omega, by omega, e6, ⟨by decide, hn, e6⟩, ⟨rfl, by omega, by omega⟩, ?_, ?_⟩⟩
  · simp; omega
  · simp [withS]

def T_specSet : Tbl := fun g E args => nilT g E args
theorem T_specSet_ok : TblOK Try.prog T_specSet := nilT_ok
set_option maxRecDepth 100000 in
set_option maxHeartbeats 4000000 in
theorem specSet (l : List Fld) (n v : List UInt8) (hl : l.length ≤ 1000000) (hn : n.length ≤ maxLen) : SpecE Try.prog 182 [] [enc_flds l, .str n, .str v] [.cells 2 false (.agg [.str [], .str []]) ((setS l n v).map enc_fld)] (.ref 0 0 (setS l n v).length (setS l n v).length) := by
  cases hf : hasF l n with | false => exact specSetA l n v hl hn hf | true => exact specSetB l n v hl hn hf
def tb_specSet : List Blk → List AV → Option (List Blk × AV × Prop)
  | [], [a0, .str n, .str v] => some ([.cells 2 false (.agg [.str [], .str []]) ((setS (dec_flds a0) n v).map enc_fld)], .ref 0 0 (setS (dec_flds a0) n v).length (setS (dec_flds a0) n v).length, ((dec_flds a0).length ≤ 1000000) ∧ (n.length ≤ maxLen) ∧ argOK a0 (enc_flds (dec_flds a0)))
  | _, _ => none
theorem tb_specSet_ok : ∀ E args E' res p, tb_specSet E args = some (E', res, p) → p → SpecE Try.prog 182 E args E' res := by
  intro E args E' res p h hp
  unfold tb_specSet at h
  split at h
  · simp only [Option.some.injEq, Prod.mk.injEq] at h
    obtain ⟨rfl, rfl, rfl⟩ := h
    exact SpecE.args (specSet _ _ _ hp.1 hp.2.1) (.cons hp.2.2 (.cons (argOK.refl _) (.cons (argOK.refl _) .nil)))
  · cases h
end Go.Proofs.Try.Hdr
