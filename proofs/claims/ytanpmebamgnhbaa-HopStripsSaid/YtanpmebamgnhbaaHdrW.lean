/- header: the walks of what takes out and puts in. No condition beyond those that a machine's numbers bring. -/
import Derived.Test.YtanpmebamgnhbaaHdr
set_option linter.unusedVariables false
set_option linter.unusedSimpArgs false
namespace Go.Proofs.Try.Hdr
open Go Go.Abs Go.Proofs Go.Mdl

def tb_specDel : List Blk → List AV → Option (List Blk × AV × Prop)
  | [.cells 2 false d0 c, .cells 1 false d1 [x]], [.ref 0 0 m1 m2, .clo 270 0 [.ptr 1 0 0 1]] =>
    some ([.cells 2 false d0 ((delP ([], []) (isN (dec_strs x)) (c.map dec_fld)).map enc_fld), .cells 1 false .nils [enc_strs (dec_strs x)]],
      .ref 0 0 (withoutS (c.map dec_fld) (dec_strs x)).length m2,
      d0 = .agg [.str [], .str []] ∧ d1 = .nils ∧ m1 = c.length ∧ m2 = c.length ∧ (c.map dec_fld).map enc_fld = c ∧ enc_strs (dec_strs x) = x ∧ (dec_strs x).length ≤ maxLen ∧ (∀ y ∈ dec_strs x, y.length ≤ maxLen) ∧ c.length ≤ 1000000)
  | _, _ => none
theorem tb_specDel_ok : ∀ E args E' res q, tb_specDel E args = some (E', res, q) → q → SpecE Try.prog 191 E args E' res := by
  intro E args E' res q h hq
  unfold tb_specDel at h
  split at h
  · rename_i d0 c d1 x m1 m2
    simp only [Option.some.injEq, Prod.mk.injEq] at h
    obtain ⟨rfl, rfl, rfl⟩ := h
    obtain ⟨rfl, rfl, h1, h2, h3, h4, h5, h6, h7⟩ := hq
    have := specDel (dec_strs x) (c.map dec_fld) m1 m2 h5 h6 (by rw [List.length_map]; exact h7) (by rw [List.length_map]; exact h1) (by rw [List.length_map]; exact h2)
    rw [h3, h4] at this
    rw [h4]
    exact this
  · cases h

def T_specWithout : Tbl := fun g E args => (addT (addT (addT nilT 192 Go.Proofs.Try.Hdr.tb_specClone) 190 Go.Proofs.Try.Hdr.tb_specNamed) 191 Go.Proofs.Try.Hdr.tb_specDel) g E args
theorem T_specWithout_ok : TblOK Try.prog T_specWithout := (addT_ok (addT_ok (addT_ok nilT_ok (by decide +kernel) Go.Proofs.Try.Hdr.tb_specClone_ok) (by decide +kernel) Go.Proofs.Try.Hdr.tb_specNamed_ok) (by decide +kernel) Go.Proofs.Try.Hdr.tb_specDel_ok)
set_option maxRecDepth 100000 in
set_option maxHeartbeats 4000000 in
theorem specWithout (l : List Fld) (names : List (List UInt8)) (hl : l.length ≤ 1000000) (hn : names.length ≤ maxLen) (hq : ∀ x ∈ names, x.length ≤ maxLen) : SpecE Try.prog 88 [] [enc_flds l, enc_strs names] [.cells 2 false (.agg [.str [], .str []]) ((delP ([], []) (isN names) l).map enc_fld)] (.ref 0 0 (withoutS l names).length l.length) := by
  refine specFE (C := T_specWithout) (wr := false) (D := fun _ => []) (U := fun _ => none) (E := []) (E' := [.cells 2 false (.agg [.str [], .str []]) ((delP ([], []) (isN names) l).map enc_fld)]) (res := [.ref 0 0 (withoutS l names).length l.length]) [112] Try.Ty.mixed T_specWithout_ok Try.func88 (nE := 0) (nA := 2) (by decide +kernel) rfl rfl ?_
  simp only [Try.f88, bodyOf, rlOf]
  rw [W_V]
  simp (config := {maxSteps := 2000000}) only [T_specWithout, Go.Proofs.Try.Hdr.tb_specClone, Go.Proofs.Try.Hdr.tb_specNamed, Go.Proofs.Try.Hdr.tb_specDel, go_sem, reduceIte, Nat.reduceEqDiff, Nat.reduceAdd, Nat.reduceMul, Nat.reduceSub, Nat.reduceBEq, Nat.reduceLT, Nat.reduceLeDiff, reduceCtorEq, Int.reduceNeg, Int.reduceEq, String.reduceEq, Int.reduceLT, Int.reduceLE, Int.reduceToNat, Int.reduceAdd, Int.reduceMul, Int.reduceSub]
  (try simp (config := {maxSteps := 2000000}) only [gimp, impB, isT, go_sem, reduceIte, Nat.reduceEqDiff, Nat.reduceAdd, Nat.reduceMul, Nat.reduceSub, Nat.reduceBEq, Nat.reduceLT, Nat.reduceLeDiff, reduceCtorEq, Int.reduceNeg, Int.reduceEq, String.reduceEq, Int.reduceLT, Int.reduceLE, Int.reduceToNat, Int.reduceAdd, Int.reduceMul, Int.reduceSub])
  exact ⟨hl, hn, hq, hl⟩
def tb_specWithout : List Blk → List AV → Option (List Blk × AV × Prop)
  | [], [a0, a1] => some ([.cells 2 false (.agg [.str [], .str []]) ((delP ([], []) (isN (dec_strs a1)) (dec_flds a0)).map enc_fld)], .ref 0 0 (withoutS (dec_flds a0) (dec_strs a1)).length (dec_flds a0).length, ((dec_flds a0).length ≤ 1000000) ∧ ((dec_strs a1).length ≤ maxLen) ∧ (∀ x ∈ (dec_strs a1), x.length ≤ maxLen) ∧ argOK a0 (enc_flds (dec_flds a0)) ∧ argOK a1 (enc_strs (dec_strs a1)))
  | _, _ => none
theorem tb_specWithout_ok : ∀ E args E' res p, tb_specWithout E args = some (E', res, p) → p → SpecE Try.prog 88 E args E' res := by
  intro E args E' res p h hp
  unfold tb_specWithout at h
  split at h
  · simp only [Option.some.injEq, Prod.mk.injEq] at h
    obtain ⟨rfl, rfl, rfl⟩ := h
    exact SpecE.args (specWithout _ _ hp.1 hp.2.1 hp.2.2.1) (.cons hp.2.2.2.1 (.cons hp.2.2.2.2 .nil))
  · cases h

def T_specWith : Tbl := fun g E args => nilT g E args
theorem T_specWith_ok : TblOK Try.prog T_specWith := nilT_ok
set_option maxRecDepth 100000 in
set_option maxHeartbeats 4000000 in
theorem specWith (l : List Fld) (n v : List UInt8) (hl : l.length ≤ 1000000) : SpecE Try.prog 109 [] [enc_flds l, .str n, .str v] [.cells 2 false (.agg [.str [], .str []]) ((withS l n v).map enc_fld)] (.ref 0 0 (withS l n v).length (withS l n v).length) := by
  refine specFE (C := T_specWith) (wr := false) (D := fun _ => []) (U := fun _ => none) (E := []) (E' := [.cells 2 false (.agg [.str [], .str []]) ((withS l n v).map enc_fld)]) (res := [.ref 0 0 (withS l n v).length (withS l n v).length]) [192] Try.Ty.mixed T_specWith_ok Try.func109 (nE := 0) (nA := 3) (by decide +kernel) rfl rfl ?_
  simp only [Try.f109, bodyOf, rlOf]
  rw [W_V]
  simp (config := {maxSteps := 2000000}) only [T_specWith, go_sem, reduceIte, Nat.reduceEqDiff, Nat.reduceAdd, Nat.reduceMul, Nat.reduceSub, Nat.reduceBEq, Nat.reduceLT, Nat.reduceLeDiff, reduceCtorEq, Int.reduceNeg, Int.reduceEq, String.reduceEq, Int.reduceLT, Int.reduceLE, Int.reduceToNat, Int.reduceAdd, Int.reduceMul, Int.reduceSub]
  (try simp (config := {maxSteps := 2000000}) only [gimp, impB, isT, go_sem, reduceIte, Nat.reduceEqDiff, Nat.reduceAdd, Nat.reduceMul, Nat.reduceSub, Nat.reduceBEq, Nat.reduceLT, Nat.reduceLeDiff, reduceCtorEq, Int.reduceNeg, Int.reduceEq, String.reduceEq, Int.reduceLT, Int.reduceLE, Int.reduceToNat, Int.reduceAdd, Int.reduceMul, Int.reduceSub])
  have hm : min l.length (l.length + 1) = l.length := by omega
  have hd : List.drop l.length (AV.agg [.str [], .str []] :: List.replicate l.length (AV.agg [.str [], .str []])) = [AV.agg [.str [], .str []]] := by
    rw [← List.replicate_succ, List.drop_replicate]
    simp
  simp only [hm, Nat.zero_add, List.take_length, hd]
  refine ⟨by omega, by omega, by simp, ⟨by simp, by omega, by omega⟩, ⟨by simp, by simp⟩, by simp [withS], ?_⟩
  simp [withS, enc_fld, List.set_append]
def tb_specWith : List Blk → List AV → Option (List Blk × AV × Prop)
  | [], [a0, .str n, .str v] => some ([.cells 2 false (.agg [.str [], .str []]) ((withS (dec_flds a0) n v).map enc_fld)], .ref 0 0 (withS (dec_flds a0) n v).length (withS (dec_flds a0) n v).length, ((dec_flds a0).length ≤ 1000000) ∧ argOK a0 (enc_flds (dec_flds a0)))
  | _, _ => none
theorem tb_specWith_ok : ∀ E args E' res p, tb_specWith E args = some (E', res, p) → p → SpecE Try.prog 109 E args E' res := by
  intro E args E' res p h hp
  unfold tb_specWith at h
  split at h
  · simp only [Option.some.injEq, Prod.mk.injEq] at h
    obtain ⟨rfl, rfl, rfl⟩ := h
    exact SpecE.args (specWith _ _ _ hp.1) (.cons hp.2 (.cons (argOK.refl _) (.cons (argOK.refl _) .nil)))
  · cases h
end Go.Proofs.Try.Hdr
