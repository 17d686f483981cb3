/- connection: the walks of the program. No condition beyond those that a machine's numbers bring. -/
import Derived.Test.YtanpmebamgnhbaaConM
import Derived.Test.YtanpmebamgnhbaaHdrA
import Derived.Test.YtanpmebamgnhbaaLists
import Derived.Test.YtanpmebamgnhbaaOctC
import Derived.Test.YtanpmebamgnhbaaDig
import Derived.Test.YtanpmebamgnhbaaLib
set_option linter.unusedVariables false
set_option linter.unusedSimpArgs false
namespace Go.Proofs.Try.Lists
open Go Go.Abs Go.Proofs Go.Mdl

def T_specSplitO : Tbl := fun g E args => (addT (addT (addT eT 140 Go.Proofs.Try.Lists.tb_specEnds) 142 Go.Proofs.Try.Oct.tb_specTrim) 141 Go.Proofs.Try.Lists.tb_specElements) g E args
theorem T_specSplitO_ok : TblOK Try.prog T_specSplitO := (addT_ok (addT_ok (addT_ok eT_ok (by decide +kernel) Go.Proofs.Try.Lists.tb_specEnds_ok) (by decide +kernel) Go.Proofs.Try.Oct.tb_specTrim_ok) (by decide +kernel) Go.Proofs.Try.Lists.tb_specElements_ok)
set_option maxRecDepth 100000 in
set_option maxHeartbeats 4000000 in
theorem specSplitO (s : List UInt8) (hs : s.length ≤ 100000000) : SpecE Try.prog 35 [] [.str s] [.cells 1 false (.str []) ((splitS s).map .str)] (.tuple [.ref 0 0 (splitS s).length (splitS s).length, .bool (endsS s)]) := by
  refine specFEM (C := T_specSplitO) (wr := false) (D := DS) (U := fun _ => none) (E := []) (E' := [.cells 1 false (.str []) ((splitS s).map .str)]) (res := [.ref 0 0 (splitS s).length (splitS s).length, .bool (endsS s)]) [320] Try.Ty.mixed T_specSplitO_ok Try.func35 (nE := 0) (nA := 1) (by decide +kernel) rfl rfl ?_
  simp only [Try.f35, bodyOf, rlOf]
  rw [W_V]
  simp (config := {maxSteps := 2000000}) only [T_specSplitO, Go.Proofs.Try.Lists.tb_specEnds, Go.Proofs.Try.Oct.tb_specTrim, Go.Proofs.Try.Lists.tb_specElements, go_sem, reduceIte, Nat.reduceEqDiff, Nat.reduceAdd, Nat.reduceMul, Nat.reduceSub, Nat.reduceBEq, Nat.reduceLT, Nat.reduceLeDiff, reduceCtorEq, Int.reduceNeg, Int.reduceEq, String.reduceEq, Int.reduceLT, Int.reduceLE, Int.reduceToNat, Int.reduceAdd, Int.reduceMul, Int.reduceSub, eT, tb_elementsF, recS, FinEM, FinEvM]
  (try simp (config := {maxSteps := 2000000}) only [gimp, impB, isT, go_sem, reduceIte, Nat.reduceEqDiff, Nat.reduceAdd, Nat.reduceMul, Nat.reduceSub, Nat.reduceBEq, Nat.reduceLT, Nat.reduceLeDiff, reduceCtorEq, Int.reduceNeg, Int.reduceEq, String.reduceEq, Int.reduceLT, Int.reduceLE, Int.reduceToNat, Int.reduceAdd, Int.reduceMul, Int.reduceSub])
  refine ⟨hs, fun h => ?_, fun h => ?_⟩
  · have : splitS s = [] := by simp [splitS, h]
    simp [this, h]
  refine VR_intro ⟨[(10, .clo 235 0 [.ptr 176 0 0 1]), (4, .ptr 80 0 0 1)], [(176, .cells 1 false (.str []) [.str s]), (80, .cells 1 false .nils [.ref 320 0 0 0]), (320, .cells 1 false (.str []) [])]⟩ lcS ?_ rfl rfl rfl rfl ?_
  · simp only [go_sem, go_sem, reduceIte, Nat.reduceEqDiff, Nat.reduceAdd, Nat.reduceMul, Nat.reduceSub, Nat.reduceBEq, Nat.reduceLT, Nat.reduceLeDiff, reduceCtorEq, Int.reduceNeg, Int.reduceEq, String.reduceEq, Int.reduceLT, Int.reduceLE, Int.reduceToNat, Int.reduceAdd, Int.reduceMul, Int.reduceSub]
  simp (config := {maxSteps := 2000000}) only [T_specSplitO, Go.Proofs.Try.Lists.tb_specEnds, Go.Proofs.Try.Oct.tb_specTrim, Go.Proofs.Try.Lists.tb_specElements, go_sem, reduceIte, Nat.reduceEqDiff, Nat.reduceAdd, Nat.reduceMul, Nat.reduceSub, Nat.reduceBEq, Nat.reduceLT, Nat.reduceLeDiff, reduceCtorEq, Int.reduceNeg, Int.reduceEq, String.reduceEq, Int.reduceLT, Int.reduceLE, Int.reduceToNat, Int.reduceAdd, Int.reduceMul, Int.reduceSub, eT, tb_elementsF, recS, FinEM, FinEvM]
  (try simp (config := {maxSteps := 2000000}) only [gimp, impB, isT, go_sem, reduceIte, Nat.reduceEqDiff, Nat.reduceAdd, Nat.reduceMul, Nat.reduceSub, Nat.reduceBEq, Nat.reduceLT, Nat.reduceLeDiff, reduceCtorEq, Int.reduceNeg, Int.reduceEq, String.reduceEq, Int.reduceLT, Int.reduceLE, Int.reduceToNat, Int.reduceAdd, Int.reduceMul, Int.reduceSub])
  have e : keepE (elemsS s) = splitS s := by rw [splitS, if_pos h]
  refine ⟨by decide +kernel, hs, ⟨⟨by rw [e], h.symm⟩, by rw [e]⟩, fun b hb => by cases hb; rfl⟩
def tb_specSplitO : List Blk → List AV → Option (List Blk × AV × Prop)
  | [], [.str s] => some ([.cells 1 false (.str []) ((splitS s).map .str)], .tuple [.ref 0 0 (splitS s).length (splitS s).length, .bool (endsS s)], (s.length ≤ 100000000))
  | _, _ => none
theorem tb_specSplitO_ok : ∀ E args E' res p, tb_specSplitO E args = some (E', res, p) → p → SpecE Try.prog 35 E args E' res := by
  intro E args E' res p h hp
  unfold tb_specSplitO at h
  split at h
  · simp only [Option.some.injEq, Prod.mk.injEq] at h
    obtain ⟨rfl, rfl, rfl⟩ := h
    exact (specSplitO _ hp)
  · cases h
end Go.Proofs.Try.Lists
namespace Go.Proofs.Try.Con
open Go Go.Abs Go.Proofs Go.Mdl

def T_specWordsP : Tbl := fun g E args => (addT nilT 164 Go.Proofs.Try.Oct.tb_specToken) g E args
theorem T_specWordsP_ok : TblOK Try.prog T_specWordsP := (addT_ok nilT_ok (by decide +kernel) Go.Proofs.Try.Oct.tb_specToken_ok)
set_option maxRecDepth 100000 in
set_option maxHeartbeats 4000000 in
theorem specWordsP (w : List UInt8) : SpecE Try.prog 227 [] [.str w] [] (.bool (!tokenS w)) := by
  refine specF0 (C := T_specWordsP) (wr := false) (D := fun _ => []) (U := fun _ => none) (res := [.bool (!tokenS w)]) Try.Ty.mixed T_specWordsP_ok Try.func227 (nA := 1) (by decide +kernel) rfl (fun _ => rfl) ?_
  simp only [Try.f227, bodyOf, rlOf]
  rw [W_V]
  simp (config := {maxSteps := 2000000}) only [T_specWordsP, Go.Proofs.Try.Oct.tb_specToken, go_sem, reduceIte, Nat.reduceEqDiff, Nat.reduceAdd, Nat.reduceMul, Nat.reduceSub, Nat.reduceBEq, Nat.reduceLT, Nat.reduceLeDiff, reduceCtorEq, Int.reduceNeg, Int.reduceEq, String.reduceEq, Int.reduceLT, Int.reduceLE, Int.reduceToNat, Int.reduceAdd, Int.reduceMul, Int.reduceSub]
  (try simp (config := {maxSteps := 2000000}) only [gimp, impB, isT, go_sem, reduceIte, Nat.reduceEqDiff, Nat.reduceAdd, Nat.reduceMul, Nat.reduceSub, Nat.reduceBEq, Nat.reduceLT, Nat.reduceLeDiff, reduceCtorEq, Int.reduceNeg, Int.reduceEq, String.reduceEq, Int.reduceLT, Int.reduceLE, Int.reduceToNat, Int.reduceAdd, Int.reduceMul, Int.reduceSub])
def tb_specWordsP : List Blk → List AV → Option (List Blk × AV × Prop)
  | [], [.str w] => some ([], .bool (!tokenS w), True)
  | _, _ => none
theorem tb_specWordsP_ok : ∀ E args E' res p, tb_specWordsP E args = some (E', res, p) → p → SpecE Try.prog 227 E args E' res := by
  intro E args E' res p h hp
  unfold tb_specWordsP at h
  split at h
  · simp only [Option.some.injEq, Prod.mk.injEq] at h
    obtain ⟨rfl, rfl, rfl⟩ := h
    exact (specWordsP _)
  · cases h

def T_specWordsHas : Tbl := fun g E args => nilT g E args
theorem T_specWordsHas_ok : TblOK Try.prog T_specWordsHas := nilT_ok
set_option maxRecDepth 100000 in
set_option maxHeartbeats 4000000 in
theorem specWordsHas (l : List (List UInt8)) (hl : l.length ≤ maxLen) : SpecE Try.prog 145 [] [enc_strs l, .clo 227 0 []] [] (.bool (l.any fun w => !tokenS w)) := by
  exact Slc.has0_S (by decide) (q := fun _ => True) (fun x _ => specWordsP x) l (fun _ _ => trivial) hl
def tb_specWordsHas : List Blk → List AV → Option (List Blk × AV × Prop)
  | [], [a0, .clo 227 0 []] => some ([], .bool ((dec_strs a0).any fun w => !tokenS w), ((dec_strs a0).length ≤ maxLen) ∧ argOK a0 (enc_strs (dec_strs a0)))
  | _, _ => none
theorem tb_specWordsHas_ok : ∀ E args E' res p, tb_specWordsHas E args = some (E', res, p) → p → SpecE Try.prog 145 E args E' res := by
  intro E args E' res p h hp
  unfold tb_specWordsHas at h
  split at h
  · simp only [Option.some.injEq, Prod.mk.injEq] at h
    obtain ⟨rfl, rfl, rfl⟩ := h
    exact SpecE.args (specWordsHas _ hp.1) (.cons hp.2 (.cons (argOK.refl _) .nil))
  · cases h

def T_specWords : Tbl := fun g E args => (addT (addT (addT (addT nilT 198 Go.Proofs.Try.Hdr.tb_specCombined) 35 Go.Proofs.Try.Lists.tb_specSplitO) 145 Go.Proofs.Try.Con.tb_specWordsHas) 152 Go.Proofs.Try.Oct.tb_specLower) g E args
theorem T_specWords_ok : TblOK Try.prog T_specWords := (addT_ok (addT_ok (addT_ok (addT_ok nilT_ok (by decide +kernel) Go.Proofs.Try.Hdr.tb_specCombined_ok) (by decide +kernel) Go.Proofs.Try.Lists.tb_specSplitO_ok) (by decide +kernel) Go.Proofs.Try.Con.tb_specWordsHas_ok) (by decide +kernel) Go.Proofs.Try.Oct.tb_specLower_ok)
set_option maxRecDepth 100000 in
set_option maxHeartbeats 4000000 in
theorem specWords (l : List Fld) (hl : l.length ≤ 1000) (hq : ∀ f ∈ l, f.2.length ≤ 50000) : SpecE Try.prog 128 [] [enc_flds l] [] (.tuple [enc_strs (conW l), .int .i64 (conE l)]) := by
  refine specF0 (C := T_specWords) (wr := false) (D := fun _ => []) (U := fun _ => none) (res := [enc_strs (conW l), .int .i64 (conE l)]) Try.Ty.mixed T_specWords_ok Try.func128 (nA := 1) (by decide +kernel) rfl (fun _ => rfl) ?_
  simp only [Try.f128, bodyOf, rlOf]
  rw [W_V]
  simp (config := {maxSteps := 2000000}) only [T_specWords, Go.Proofs.Try.Hdr.tb_specCombined, Go.Proofs.Try.Lists.tb_specSplitO, Go.Proofs.Try.Con.tb_specWordsHas, Go.Proofs.Try.Oct.tb_specLower, go_sem, reduceIte, Nat.reduceEqDiff, Nat.reduceAdd, Nat.reduceMul, Nat.reduceSub, Nat.reduceBEq, Nat.reduceLT, Nat.reduceLeDiff, reduceCtorEq, Int.reduceNeg, Int.reduceEq, String.reduceEq, Int.reduceLT, Int.reduceLE, Int.reduceToNat, Int.reduceAdd, Int.reduceMul, Int.reduceSub]
  (try simp (config := {maxSteps := 2000000}) only [gimp, impB, isT, go_sem, reduceIte, Nat.reduceEqDiff, Nat.reduceAdd, Nat.reduceMul, Nat.reduceSub, Nat.reduceBEq, Nat.reduceLT, Nat.reduceLeDiff, reduceCtorEq, Int.reduceNeg, Int.reduceEq, String.reduceEq, Int.reduceLT, Int.reduceLE, Int.reduceToNat, Int.reduceAdd, Int.reduceMul, Int.reduceSub])
  have hm : (50000000 : Nat) ≤ maxLen := by decide
  have hcomb : (combS l [67, 111, 110, 110, 101, 99, 116, 105, 111, 110]).length ≤ 50002000 := by
    have h3 := allS_len l [67, 111, 110, 110, 101, 99, 116, 105, 111, 110]
    have h4 := joinS_len (l := allS l [67, 111, 110, 110, 101, 99, 116, 105, 111, 110]) (m := 50000) (fun e he => by obtain ⟨f, hf, rfl, _⟩ := allS_mem he; exact hq f hf)
    have h5 := Nat.mul_le_mul (show (allS l [67, 111, 110, 110, 101, 99, 116, 105, 111, 110]).length ≤ 1000 by omega) (Nat.le_refl (50000 + 2))
    unfold combS; omega
  have hW : conW l = wordsS (combS l [67, 111, 110, 110, 101, 99, 116, 105, 111, 110]) := rfl
  have hE : conE l = if wordsOk (combS l [67, 111, 110, 110, 101, 99, 116, 105, 111, 110]) = true then 0 else 3 := rfl
  rw [hW, hE]
  generalize combS l [67, 111, 110, 110, 101, 99, 116, 105, 111, 110] = s at *
  have hm2 : (100000001 : Nat) ≤ maxLen := by decide
  have hcnt := splitS_count s
  have hsm : ∀ e ∈ splitS s, e.length ≤ s.length := fun e he => (splitS_mem he).1
  rw [List.take_length]
  have hany : ((splitS s).any fun w => !tokenS w) = !((splitS s).all tokenS) := by rw [List.all_eq_not_any_not, Bool.not_not]
  rw [hany]
  refine ⟨⟨hl, by decide, fun f hf => by have := hq f hf; omega⟩, by omega, fun _ => by omega, fun hbad => ?_, fun hend hall => ?_⟩
  · have hno : wordsOk s = false := by
      rcases hbad with h | h
      · simp [wordsOk, h]
      · rw [Bool.not_eq_true'] at h; simp [wordsOk, h]
    simp [wordsS, hno]
  have hok : wordsOk s = true := by
    rw [Bool.not_eq_false'] at hall
    simp [wordsOk, hend, hall]
  have hws : wordsS s = (splitS s).map lowerS := by simp [wordsS, hok]
  rw [hws, if_pos hok]
  generalize splitS s = w at *
  refine VL_inv (X := Nat) (fun k => ⟨[(6, .ref 288 0 w.length w.length), (26, .ref 288 0 w.length w.length), (27, .int .i64 w.length), (28, .int .i64 k)], [(288, .cells 1 false (.str []) ((lowTo w k).map .str))]⟩) (fun k => k ≤ w.length) (fun k => w.length - k) 0 ?_ ?_ ?_
  · simp only [lowTo_zero, go_sem, go_sem, reduceIte, Nat.reduceEqDiff, Nat.reduceAdd, Nat.reduceMul, Nat.reduceSub, Nat.reduceBEq, Nat.reduceLT, Nat.reduceLeDiff, reduceCtorEq, Int.reduceNeg, Int.reduceEq, String.reduceEq, Int.reduceLT, Int.reduceLE, Int.reduceToNat, Int.reduceAdd, Int.reduceMul, Int.reduceSub]
    try rfl
  · exact Nat.zero_le _
  rintro k hk
  have hget := fun h : k < w.length => lowTo_get (w := w) h
  have hset := fun h : k < w.length => lowTo_set (w := w) h
  have hlen := lowTo_len w k
  have hmem : k < w.length → (w.getD k []).length ≤ maxLen := fun h => by have := hsm _ (List.mem_of_getElem? (getD_of_lt (s := w) (d := []) h)); omega
  simp only [hlen, T_specWords, Go.Proofs.Try.Hdr.tb_specCombined, Go.Proofs.Try.Lists.tb_specSplitO, Go.Proofs.Try.Con.tb_specWordsHas, Go.Proofs.Try.Oct.tb_specLower, go_sem, reduceIte, Nat.reduceEqDiff, Nat.reduceAdd, Nat.reduceMul, Nat.reduceSub, Nat.reduceBEq, Nat.reduceLT, Nat.reduceLeDiff, reduceCtorEq, Int.reduceNeg, Int.reduceEq, String.reduceEq, Int.reduceLT, Int.reduceLE, Int.reduceToNat, Int.reduceAdd, Int.reduceMul, Int.reduceSub]
  try simp (config := {maxSteps := 2000000}) only [gimp, impB, isT, go_sem, reduceIte, Nat.reduceEqDiff, Nat.reduceAdd, Nat.reduceMul, Nat.reduceSub, Nat.reduceBEq, Nat.reduceLT, Nat.reduceLeDiff, reduceCtorEq, Int.reduceNeg, Int.reduceEq, String.reduceEq, Int.reduceLT, Int.reduceLE, Int.reduceToNat, Int.reduceAdd, Int.reduceMul, Int.reduceSub]
  refine ⟨fun hlt => ?_, fun hge => ?_⟩
  · rw [Nat.zero_add, hget (by omega)]
    exact ⟨by omega, by omega, hmem (by omega), by omega, by omega, by omega, k + 1, ⟨by omega, by rw [← List.map_set, hset (by omega)]⟩, by omega, by omega⟩
  · have : k = w.length := by omega
    subst this
    rw [lowTo_end, List.take_of_length_le (by simp)]
def tb_specWords : List Blk → List AV → Option (List Blk × AV × Prop)
  | [], [a0] => some ([], .tuple [enc_strs (conW (dec_flds a0)), .int .i64 (conE (dec_flds a0))], ((dec_flds a0).length ≤ 1000) ∧ (∀ f ∈ (dec_flds a0), f.2.length ≤ 50000) ∧ argOK a0 (enc_flds (dec_flds a0)))
  | _, _ => none
theorem tb_specWords_ok : ∀ E args E' res p, tb_specWords E args = some (E', res, p) → p → SpecE Try.prog 128 E args E' res := by
  intro E args E' res p h hp
  unfold tb_specWords at h
  split at h
  · simp only [Option.some.injEq, Prod.mk.injEq] at h
    obtain ⟨rfl, rfl, rfl⟩ := h
    exact SpecE.args (specWords _ hp.1 hp.2.1) (.cons hp.2.2 .nil)
  · cases h

def T_specWordsO : Tbl := fun g E args => (addT (addT (addT (addT nilT 198 Go.Proofs.Try.Hdr.tb_specCombined) 35 Go.Proofs.Try.Lists.tb_specSplitO) 145 Go.Proofs.Try.Con.tb_specWordsHas) 152 Go.Proofs.Try.Oct.tb_specLower) g E args
theorem T_specWordsO_ok : TblOK Try.prog T_specWordsO := (addT_ok (addT_ok (addT_ok (addT_ok nilT_ok (by decide +kernel) Go.Proofs.Try.Hdr.tb_specCombined_ok) (by decide +kernel) Go.Proofs.Try.Lists.tb_specSplitO_ok) (by decide +kernel) Go.Proofs.Try.Con.tb_specWordsHas_ok) (by decide +kernel) Go.Proofs.Try.Oct.tb_specLower_ok)
set_option maxRecDepth 100000 in
set_option maxHeartbeats 4000000 in
theorem specWordsO (l : List Fld) (hl : l.length ≤ 1000) (hq : ∀ f ∈ l, f.2.length ≤ 50000) (hcon : conOk l = true) : SpecE Try.prog 128 [] [enc_flds l] [.cells 1 false (.str []) ((conW l).map .str)] (.tuple [.ref 0 0 (conW l).length (conW l).length, .int .i64 (conE l)]) := by
  refine specFE (C := T_specWordsO) (wr := false) (D := fun _ => []) (U := fun _ => none) (E := []) (E' := [.cells 1 false (.str []) ((conW l).map .str)]) (res := [.ref 0 0 (conW l).length (conW l).length, .int .i64 (conE l)]) [288] Try.Ty.mixed T_specWordsO_ok Try.func128 (nE := 0) (nA := 1) (by decide +kernel) rfl rfl ?_
  simp only [Try.f128, bodyOf, rlOf]
  rw [W_V]
  simp (config := {maxSteps := 2000000}) only [T_specWordsO, Go.Proofs.Try.Hdr.tb_specCombined, Go.Proofs.Try.Lists.tb_specSplitO, Go.Proofs.Try.Con.tb_specWordsHas, Go.Proofs.Try.Oct.tb_specLower, go_sem, reduceIte, Nat.reduceEqDiff, Nat.reduceAdd, Nat.reduceMul, Nat.reduceSub, Nat.reduceBEq, Nat.reduceLT, Nat.reduceLeDiff, reduceCtorEq, Int.reduceNeg, Int.reduceEq, String.reduceEq, Int.reduceLT, Int.reduceLE, Int.reduceToNat, Int.reduceAdd, Int.reduceMul, Int.reduceSub]
  (try simp (config := {maxSteps := 2000000}) only [gimp, impB, isT, go_sem, reduceIte, Nat.reduceEqDiff, Nat.reduceAdd, Nat.reduceMul, Nat.reduceSub, Nat.reduceBEq, Nat.reduceLT, Nat.reduceLeDiff, reduceCtorEq, Int.reduceNeg, Int.reduceEq, String.reduceEq, Int.reduceLT, Int.reduceLE, Int.reduceToNat, Int.reduceAdd, Int.reduceMul, Int.reduceSub])
  have hm : (50000000 : Nat) ≤ maxLen := by decide
  have hcomb : (combS l [67, 111, 110, 110, 101, 99, 116, 105, 111, 110]).length ≤ 50002000 := by
    have h3 := allS_len l [67, 111, 110, 110, 101, 99, 116, 105, 111, 110]
    have h4 := joinS_len (l := allS l [67, 111, 110, 110, 101, 99, 116, 105, 111, 110]) (m := 50000) (fun e he => by obtain ⟨f, hf, rfl, _⟩ := allS_mem he; exact hq f hf)
    have h5 := Nat.mul_le_mul (show (allS l [67, 111, 110, 110, 101, 99, 116, 105, 111, 110]).length ≤ 1000 by omega) (Nat.le_refl (50000 + 2))
    unfold combS; omega
  have hW : conW l = wordsS (combS l [67, 111, 110, 110, 101, 99, 116, 105, 111, 110]) := rfl
  have hE : conE l = if wordsOk (combS l [67, 111, 110, 110, 101, 99, 116, 105, 111, 110]) = true then 0 else 3 := rfl
  have hO : conOk l = wordsOk (combS l [67, 111, 110, 110, 101, 99, 116, 105, 111, 110]) := rfl
  rw [hW, hE]
  generalize combS l [67, 111, 110, 110, 101, 99, 116, 105, 111, 110] = s at *
  have hm2 : (100000001 : Nat) ≤ maxLen := by decide
  have hcnt := splitS_count s
  have hsm : ∀ e ∈ splitS s, e.length ≤ s.length := fun e he => (splitS_mem he).1
  rw [List.take_length]
  have hany : ((splitS s).any fun w => !tokenS w) = !((splitS s).all tokenS) := by rw [List.all_eq_not_any_not, Bool.not_not]
  rw [hany]
  refine ⟨⟨hl, by decide, fun f hf => by have := hq f hf; omega⟩, by omega, fun _ => by omega, fun hbad => ?_, fun hend hall => ?_⟩
  · have hno : wordsOk s = false := by
      rcases hbad with h | h
      · simp [wordsOk, h]
      · rw [Bool.not_eq_true'] at h; simp [wordsOk, h]
    rw [hO, hno] at hcon; cases hcon
  have hok : wordsOk s = true := by
    rw [Bool.not_eq_false'] at hall
    simp [wordsOk, hend, hall]
  have hws : wordsS s = (splitS s).map lowerS := by simp [wordsS, hok]
  rw [hws, if_pos hok]
  generalize splitS s = w at *
  refine VL_inv (X := Nat) (fun k => ⟨[(6, .ref 288 0 w.length w.length), (26, .ref 288 0 w.length w.length), (27, .int .i64 w.length), (28, .int .i64 k)], [(288, .cells 1 false (.str []) ((lowTo w k).map .str))]⟩) (fun k => k ≤ w.length) (fun k => w.length - k) 0 ?_ ?_ ?_
  · simp only [lowTo_zero, go_sem, go_sem, reduceIte, Nat.reduceEqDiff, Nat.reduceAdd, Nat.reduceMul, Nat.reduceSub, Nat.reduceBEq, Nat.reduceLT, Nat.reduceLeDiff, reduceCtorEq, Int.reduceNeg, Int.reduceEq, String.reduceEq, Int.reduceLT, Int.reduceLE, Int.reduceToNat, Int.reduceAdd, Int.reduceMul, Int.reduceSub]
    try rfl
  · exact Nat.zero_le _
  rintro k hk
  have hget := fun h : k < w.length => lowTo_get (w := w) h
  have hset := fun h : k < w.length => lowTo_set (w := w) h
  have hlen := lowTo_len w k
  have hmem : k < w.length → (w.getD k []).length ≤ maxLen := fun h => by have := hsm _ (List.mem_of_getElem? (getD_of_lt (s := w) (d := []) h)); omega
  simp only [hlen, T_specWordsO, Go.Proofs.Try.Hdr.tb_specCombined, Go.Proofs.Try.Lists.tb_specSplitO, Go.Proofs.Try.Con.tb_specWordsHas, Go.Proofs.Try.Oct.tb_specLower, go_sem, reduceIte, Nat.reduceEqDiff, Nat.reduceAdd, Nat.reduceMul, Nat.reduceSub, Nat.reduceBEq, Nat.reduceLT, Nat.reduceLeDiff, reduceCtorEq, Int.reduceNeg, Int.reduceEq, String.reduceEq, Int.reduceLT, Int.reduceLE, Int.reduceToNat, Int.reduceAdd, Int.reduceMul, Int.reduceSub]
  try simp (config := {maxSteps := 2000000}) only [gimp, impB, isT, go_sem, reduceIte, Nat.reduceEqDiff, Nat.reduceAdd, Nat.reduceMul, Nat.reduceSub, Nat.reduceBEq, Nat.reduceLT, Nat.reduceLeDiff, reduceCtorEq, Int.reduceNeg, Int.reduceEq, String.reduceEq, Int.reduceLT, Int.reduceLE, Int.reduceToNat, Int.reduceAdd, Int.reduceMul, Int.reduceSub]
  refine ⟨fun hlt => ?_, fun hge => ?_⟩
  · rw [Nat.zero_add, hget (by omega)]
    exact ⟨by omega, by omega, hmem (by omega), by omega, by omega, by omega, k + 1, ⟨by omega, by rw [← List.map_set, hset (by omega)]⟩, by omega, by omega⟩
  · have : k = w.length := by omega
    subst this
    rw [lowTo_end]
def tb_specWordsO : List Blk → List AV → Option (List Blk × AV × Prop)
  | [], [a0] => some ([.cells 1 false (.str []) ((conW (dec_flds a0)).map .str)], .tuple [.ref 0 0 (conW (dec_flds a0)).length (conW (dec_flds a0)).length, .int .i64 (conE (dec_flds a0))], ((dec_flds a0).length ≤ 1000) ∧ (∀ f ∈ (dec_flds a0), f.2.length ≤ 50000) ∧ (conOk (dec_flds a0) = true) ∧ argOK a0 (enc_flds (dec_flds a0)))
  | _, _ => none
theorem tb_specWordsO_ok : ∀ E args E' res p, tb_specWordsO E args = some (E', res, p) → p → SpecE Try.prog 128 E args E' res := by
  intro E args E' res p h hp
  unfold tb_specWordsO at h
  split at h
  · simp only [Option.some.injEq, Prod.mk.injEq] at h
    obtain ⟨rfl, rfl, rfl⟩ := h
    exact SpecE.args (specWordsO _ hp.1 hp.2.1 hp.2.2.1) (.cons hp.2.2.2 .nil)
  · cases h

def T_specIndexS : Tbl := fun g E args => nilT g E args
theorem T_specIndexS_ok : TblOK Try.prog T_specIndexS := nilT_ok
set_option maxRecDepth 100000 in
set_option maxHeartbeats 4000000 in
theorem specIndexS (l : List (List UInt8)) (w : List UInt8) (hl : l.length ≤ maxLen) : SpecE Try.prog 269 [] [enc_strs l, .str w] [] (.int .i64 (idxP (fun x => decide (x = w)) l)) := by
  refine specF0 (C := T_specIndexS) (wr := false) (D := fun _ => []) (U := fun _ => none) (res := [.int .i64 (idxP (fun x => decide (x = w)) l)]) Try.Ty.mixed T_specIndexS_ok Try.func269 (nA := 2) (by decide +kernel) rfl (fun _ => rfl) ?_
  simp only [Try.f269, bodyOf, rlOf]
  rw [W_V]
  simp (config := {maxSteps := 2000000}) only [T_specIndexS, go_sem, reduceIte, Nat.reduceEqDiff, Nat.reduceAdd, Nat.reduceMul, Nat.reduceSub, Nat.reduceBEq, Nat.reduceLT, Nat.reduceLeDiff, reduceCtorEq, Int.reduceNeg, Int.reduceEq, String.reduceEq, Int.reduceLT, Int.reduceLE, Int.reduceToNat, Int.reduceAdd, Int.reduceMul, Int.reduceSub]
  (try simp (config := {maxSteps := 2000000}) only [gimp, impB, isT, go_sem, reduceIte, Nat.reduceEqDiff, Nat.reduceAdd, Nat.reduceMul, Nat.reduceSub, Nat.reduceBEq, Nat.reduceLT, Nat.reduceLeDiff, reduceCtorEq, Int.reduceNeg, Int.reduceEq, String.reduceEq, Int.reduceLT, Int.reduceLE, Int.reduceToNat, Int.reduceAdd, Int.reduceMul, Int.reduceSub])
  have hm : l.length ≤ 9223372036854775807 := hl
  refine VL_inv (X := Nat) (fun k => ⟨[(0, enc_strs l), (1, .str w), (7, .int .i64 l.length), (8, .int .i64 k)], []⟩) (fun k => k ≤ l.length ∧ (l.take k).any (fun x => decide (x = w)) = false) (fun k => l.length - k) 0 ?_ ?_ ?_
  · simp only [go_sem, go_sem, reduceIte, Nat.reduceEqDiff, Nat.reduceAdd, Nat.reduceMul, Nat.reduceSub, Nat.reduceBEq, Nat.reduceLT, Nat.reduceLeDiff, reduceCtorEq, Int.reduceNeg, Int.reduceEq, String.reduceEq, Int.reduceLT, Int.reduceLE, Int.reduceToNat, Int.reduceAdd, Int.reduceMul, Int.reduceSub]
    try rfl
  · exact ⟨Nat.zero_le _, by simp⟩
  rintro k ⟨hk, hn⟩
  simp (config := {maxSteps := 2000000}) only [T_specIndexS, go_sem, reduceIte, Nat.reduceEqDiff, Nat.reduceAdd, Nat.reduceMul, Nat.reduceSub, Nat.reduceBEq, Nat.reduceLT, Nat.reduceLeDiff, reduceCtorEq, Int.reduceNeg, Int.reduceEq, String.reduceEq, Int.reduceLT, Int.reduceLE, Int.reduceToNat, Int.reduceAdd, Int.reduceMul, Int.reduceSub]
  (try simp (config := {maxSteps := 2000000}) only [gimp, impB, isT, go_sem, reduceIte, Nat.reduceEqDiff, Nat.reduceAdd, Nat.reduceMul, Nat.reduceSub, Nat.reduceBEq, Nat.reduceLT, Nat.reduceLeDiff, reduceCtorEq, Int.reduceNeg, Int.reduceEq, String.reduceEq, Int.reduceLT, Int.reduceLE, Int.reduceToNat, Int.reduceAdd, Int.reduceMul, Int.reduceSub])
  refine ⟨fun hlt => ⟨by omega, fun he => (idxP_hit [] (by omega) hn (by simp [he])).symm, fun hne => ⟨by omega, k + 1, by omega, ⟨by omega, ?_⟩, by omega⟩⟩, fun hge => ?_⟩
  · rw [any_take_succ [] (by omega) hn, decide_eq_false_iff_not]; exact fun h => hne h.symm
  · have : k = l.length := by omega
    subst this
    rw [List.take_length] at hn
    exact (idxP_none hn).symm
def tb_specIndexS : List Blk → List AV → Option (List Blk × AV × Prop)
  | [], [a0, .str w] => some ([], .int .i64 (idxP (fun x => decide (x = w)) (dec_strs a0)), ((dec_strs a0).length ≤ maxLen) ∧ argOK a0 (enc_strs (dec_strs a0)))
  | _, _ => none
theorem tb_specIndexS_ok : ∀ E args E' res p, tb_specIndexS E args = some (E', res, p) → p → SpecE Try.prog 269 E args E' res := by
  intro E args E' res p h hp
  unfold tb_specIndexS at h
  split at h
  · simp only [Option.some.injEq, Prod.mk.injEq] at h
    obtain ⟨rfl, rfl, rfl⟩ := h
    exact SpecE.args (specIndexS _ _ hp.1) (.cons hp.2 (.cons (argOK.refl _) .nil))
  · cases h

def T_specContainsS : Tbl := fun g E args => (addT nilT 269 Go.Proofs.Try.Con.tb_specIndexS) g E args
theorem T_specContainsS_ok : TblOK Try.prog T_specContainsS := (addT_ok nilT_ok (by decide +kernel) Go.Proofs.Try.Con.tb_specIndexS_ok)
set_option maxRecDepth 100000 in
set_option maxHeartbeats 4000000 in
theorem specContainsS (l : List (List UInt8)) (w : List UInt8) (hl : l.length ≤ maxLen) : SpecE Try.prog 188 [] [enc_strs l, .str w] [] (.bool (inL l w)) := by
  refine specF0 (C := T_specContainsS) (wr := false) (D := fun _ => []) (U := fun _ => none) (res := [.bool (inL l w)]) Try.Ty.mixed T_specContainsS_ok Try.func188 (nA := 2) (by decide +kernel) rfl (fun _ => rfl) ?_
  simp only [Try.f188, bodyOf, rlOf]
  rw [W_V]
  simp (config := {maxSteps := 2000000}) only [T_specContainsS, Go.Proofs.Try.Con.tb_specIndexS, go_sem, reduceIte, Nat.reduceEqDiff, Nat.reduceAdd, Nat.reduceMul, Nat.reduceSub, Nat.reduceBEq, Nat.reduceLT, Nat.reduceLeDiff, reduceCtorEq, Int.reduceNeg, Int.reduceEq, String.reduceEq, Int.reduceLT, Int.reduceLE, Int.reduceToNat, Int.reduceAdd, Int.reduceMul, Int.reduceSub]
  (try simp (config := {maxSteps := 2000000}) only [gimp, impB, isT, go_sem, reduceIte, Nat.reduceEqDiff, Nat.reduceAdd, Nat.reduceMul, Nat.reduceSub, Nat.reduceBEq, Nat.reduceLT, Nat.reduceLeDiff, reduceCtorEq, Int.reduceNeg, Int.reduceEq, String.reduceEq, Int.reduceLT, Int.reduceLE, Int.reduceToNat, Int.reduceAdd, Int.reduceMul, Int.reduceSub])
  refine ⟨hl, ?_⟩
  rw [Bool.eq_iff_iff, decide_eq_true_eq, idxP_ge]; rfl
def tb_specContainsS : List Blk → List AV → Option (List Blk × AV × Prop)
  | [], [a0, .str w] => some ([], .bool (inL (dec_strs a0) w), ((dec_strs a0).length ≤ maxLen) ∧ argOK a0 (enc_strs (dec_strs a0)))
  | _, _ => none
theorem tb_specContainsS_ok : ∀ E args E' res p, tb_specContainsS E args = some (E', res, p) → p → SpecE Try.prog 188 E args E' res := by
  intro E args E' res p h hp
  unfold tb_specContainsS at h
  split at h
  · simp only [Option.some.injEq, Prod.mk.injEq] at h
    obtain ⟨rfl, rfl, rfl⟩ := h
    exact SpecE.args (specContainsS _ _ hp.1) (.cons hp.2 (.cons (argOK.refl _) .nil))
  · cases h

def T_specHas : Tbl := fun g E args => (addT (addT (addT nilT 128 Go.Proofs.Try.Con.tb_specWords) 152 Go.Proofs.Try.Oct.tb_specLower) 188 Go.Proofs.Try.Con.tb_specContainsS) g E args
theorem T_specHas_ok : TblOK Try.prog T_specHas := (addT_ok (addT_ok (addT_ok nilT_ok (by decide +kernel) Go.Proofs.Try.Con.tb_specWords_ok) (by decide +kernel) Go.Proofs.Try.Oct.tb_specLower_ok) (by decide +kernel) Go.Proofs.Try.Con.tb_specContainsS_ok)
set_option maxRecDepth 100000 in
set_option maxHeartbeats 4000000 in
theorem specHas (l : List Fld) (w : List UInt8) (hl : l.length ≤ 1000) (hq : ∀ f ∈ l, f.2.length ≤ 50000) (hw : w.length ≤ maxLen) : SpecE Try.prog 86 [] [enc_flds l, .str w] [] (.bool (conHas l w)) := by
  refine specF0 (C := T_specHas) (wr := false) (D := fun _ => []) (U := fun _ => none) (res := [.bool (conHas l w)]) Try.Ty.mixed T_specHas_ok Try.func86 (nA := 2) (by decide +kernel) rfl (fun _ => rfl) ?_
  simp only [Try.f86, bodyOf, rlOf]
  rw [W_V]
  simp (config := {maxSteps := 2000000}) only [T_specHas, Go.Proofs.Try.Con.tb_specWords, Go.Proofs.Try.Oct.tb_specLower, Go.Proofs.Try.Con.tb_specContainsS, go_sem, reduceIte, Nat.reduceEqDiff, Nat.reduceAdd, Nat.reduceMul, Nat.reduceSub, Nat.reduceBEq, Nat.reduceLT, Nat.reduceLeDiff, reduceCtorEq, Int.reduceNeg, Int.reduceEq, String.reduceEq, Int.reduceLT, Int.reduceLE, Int.reduceToNat, Int.reduceAdd, Int.reduceMul, Int.reduceSub]
  (try simp (config := {maxSteps := 2000000}) only [gimp, impB, isT, go_sem, reduceIte, Nat.reduceEqDiff, Nat.reduceAdd, Nat.reduceMul, Nat.reduceSub, Nat.reduceBEq, Nat.reduceLT, Nat.reduceLeDiff, reduceCtorEq, Int.reduceNeg, Int.reduceEq, String.reduceEq, Int.reduceLT, Int.reduceLE, Int.reduceToNat, Int.reduceAdd, Int.reduceMul, Int.reduceSub])
  exact ⟨⟨hl, hq⟩, hw, conW_count hl hq, rfl⟩
def tb_specHas : List Blk → List AV → Option (List Blk × AV × Prop)
  | [], [a0, .str w] => some ([], .bool (conHas (dec_flds a0) w), ((dec_flds a0).length ≤ 1000) ∧ (∀ f ∈ (dec_flds a0), f.2.length ≤ 50000) ∧ (w.length ≤ maxLen) ∧ argOK a0 (enc_flds (dec_flds a0)))
  | _, _ => none
theorem tb_specHas_ok : ∀ E args E' res p, tb_specHas E args = some (E', res, p) → p → SpecE Try.prog 86 E args E' res := by
  intro E args E' res p h hp
  unfold tb_specHas at h
  split at h
  · simp only [Option.some.injEq, Prod.mk.injEq] at h
    obtain ⟨rfl, rfl, rfl⟩ := h
    exact SpecE.args (specHas _ _ hp.1 hp.2.1 hp.2.2.1) (.cons hp.2.2.2 (.cons (argOK.refl _) .nil))
  · cases h

def T_specPersF : Tbl := fun g E args => (addT nilT 188 Go.Proofs.Try.Con.tb_specContainsS) g E args
theorem T_specPersF_ok : TblOK Try.prog T_specPersF := (addT_ok nilT_ok (by decide +kernel) Go.Proofs.Try.Con.tb_specContainsS_ok)
set_option maxRecDepth 100000 in
set_option maxHeartbeats 4000000 in
theorem specPersF (W : List (List UInt8)) (w : List UInt8) (hl : W.length ≤ maxLen) : SpecE Try.prog 228 [.cells 1 false .nils [enc_strs W]] [.str w, .ptr 0 0 0 1] [.cells 1 false .nils [enc_strs W]] (.bool (inL W w)) := by
  refine specFE (C := T_specPersF) (wr := false) (D := fun _ => []) (U := fun _ => none) (E := [.cells 1 false .nils [enc_strs W]]) (E' := [.cells 1 false .nils [enc_strs W]]) (res := [.bool (inL W w)]) [] Try.Ty.mixed T_specPersF_ok Try.func228 (nE := 1) (nA := 2) (by decide +kernel) rfl rfl ?_
  simp only [Try.f228, bodyOf, rlOf]
  rw [W_V]
  simp (config := {maxSteps := 2000000}) only [T_specPersF, Go.Proofs.Try.Con.tb_specContainsS, go_sem, reduceIte, Nat.reduceEqDiff, Nat.reduceAdd, Nat.reduceMul, Nat.reduceSub, Nat.reduceBEq, Nat.reduceLT, Nat.reduceLeDiff, reduceCtorEq, Int.reduceNeg, Int.reduceEq, String.reduceEq, Int.reduceLT, Int.reduceLE, Int.reduceToNat, Int.reduceAdd, Int.reduceMul, Int.reduceSub]
  (try simp (config := {maxSteps := 2000000}) only [gimp, impB, isT, go_sem, reduceIte, Nat.reduceEqDiff, Nat.reduceAdd, Nat.reduceMul, Nat.reduceSub, Nat.reduceBEq, Nat.reduceLT, Nat.reduceLeDiff, reduceCtorEq, Int.reduceNeg, Int.reduceEq, String.reduceEq, Int.reduceLT, Int.reduceLE, Int.reduceToNat, Int.reduceAdd, Int.reduceMul, Int.reduceSub])
  exact hl
def tb_specPersF : List Blk → List AV → Option (List Blk × AV × Prop)
  | [.cells 1 false d [b0_0]], [.str w, .ptr 0 0 0 1] => some ([.cells 1 false .nils [enc_strs (dec_strs b0_0)]], .bool (inL (dec_strs b0_0) w), (d = .nils) ∧ ((dec_strs b0_0).length ≤ maxLen) ∧ b0_0 = enc_strs (dec_strs b0_0))
  | _, _ => none
theorem tb_specPersF_ok : ∀ E args E' res p, tb_specPersF E args = some (E', res, p) → p → SpecE Try.prog 228 E args E' res := by
  intro E args E' res p h hp
  unfold tb_specPersF at h
  split at h
  · rename_i d b0_0 w
    simp only [Option.some.injEq, Prod.mk.injEq] at h
    obtain ⟨rfl, rfl, rfl⟩ := h
    obtain ⟨rfl, hh0, hb0⟩ := hp
    generalize dec_strs b0_0 = b0_0_x at *
    subst hb0
    exact (specPersF _ _ hh0)
  · cases h

def T_specPersists : Tbl := fun g E args => (addT (addT nilT 128 Go.Proofs.Try.Con.tb_specWords) 228 Go.Proofs.Try.Con.tb_specPersF) g E args
theorem T_specPersists_ok : TblOK Try.prog T_specPersists := (addT_ok (addT_ok nilT_ok (by decide +kernel) Go.Proofs.Try.Con.tb_specWords_ok) (by decide +kernel) Go.Proofs.Try.Con.tb_specPersF_ok)
set_option maxRecDepth 100000 in
set_option maxHeartbeats 4000000 in
theorem specPersists (m : Int) (l : List Fld) (hl : l.length ≤ 1000) (hq : ∀ f ∈ l, f.2.length ≤ 50000) : SpecE Try.prog 131 [] [.int .i64 m, enc_flds l] [] (.bool (conPer m l)) := by
  refine specF0 (C := T_specPersists) (wr := false) (D := fun _ => []) (U := fun _ => none) (res := [.bool (conPer m l)]) Try.Ty.mixed T_specPersists_ok Try.func131 (nA := 2) (by decide +kernel) rfl (fun _ => rfl) ?_
  simp only [Try.f131, bodyOf, rlOf]
  rw [W_V]
  simp (config := {maxSteps := 2000000}) only [T_specPersists, Go.Proofs.Try.Con.tb_specWords, Go.Proofs.Try.Con.tb_specPersF, go_sem, reduceIte, Nat.reduceEqDiff, Nat.reduceAdd, Nat.reduceMul, Nat.reduceSub, Nat.reduceBEq, Nat.reduceLT, Nat.reduceLeDiff, reduceCtorEq, Int.reduceNeg, Int.reduceEq, String.reduceEq, Int.reduceLT, Int.reduceLE, Int.reduceToNat, Int.reduceAdd, Int.reduceMul, Int.reduceSub]
  (try simp (config := {maxSteps := 2000000}) only [gimp, impB, isT, go_sem, reduceIte, Nat.reduceEqDiff, Nat.reduceAdd, Nat.reduceMul, Nat.reduceSub, Nat.reduceBEq, Nat.reduceLT, Nat.reduceLeDiff, reduceCtorEq, Int.reduceNeg, Int.reduceEq, String.reduceEq, Int.reduceLT, Int.reduceLE, Int.reduceToNat, Int.reduceAdd, Int.reduceMul, Int.reduceSub])
  have hc := conW_count hl hq
  have e0 : conE l = 0 ↔ conOk l = true := by unfold conE; cases conOk l <;> simp
  have ed : decide (conE l = 0) = conOk l := by unfold conE; cases conOk l <;> rfl
  have hP : conPer m l = (conOk l && (!inL (conW l) [99, 108, 111, 115, 101] && (decide (0 < m) || inL (conW l) [107, 101, 101, 112, 45, 97, 108, 105, 118, 101]))) := rfl
  rw [hP, ed, e0]
  refine ⟨⟨hl, hq⟩, fun h => ⟨h, hc, fun _ h2 h3 => ⟨⟨⟨h, h2⟩, h3⟩, hc, by rw [Bool.and_assoc]⟩, fun h4 => ⟨fun _ h2 => ?_, ?_⟩⟩, fun h => ⟨h, h, by rw [Bool.eq_false_iff.2 h]; rfl⟩⟩
  · rw [h, h2] at h4
    simpa using h4
  · rw [h] at h4 ⊢
    revert h4
    cases inL (conW l) [99, 108, 111, 115, 101] <;> cases decide (0 < m) <;> simp
def tb_specPersists : List Blk → List AV → Option (List Blk × AV × Prop)
  | [], [.int .i64 m, a1] => some ([], .bool (conPer m (dec_flds a1)), ((dec_flds a1).length ≤ 1000) ∧ (∀ f ∈ (dec_flds a1), f.2.length ≤ 50000) ∧ argOK a1 (enc_flds (dec_flds a1)))
  | _, _ => none
theorem tb_specPersists_ok : ∀ E args E' res p, tb_specPersists E args = some (E', res, p) → p → SpecE Try.prog 131 E args E' res := by
  intro E args E' res p h hp
  unfold tb_specPersists at h
  split at h
  · simp only [Option.some.injEq, Prod.mk.injEq] at h
    obtain ⟨rfl, rfl, rfl⟩ := h
    exact SpecE.args (specPersists _ _ hp.1 hp.2.1) (.cons (argOK.refl _) (.cons hp.2.2 .nil))
  · cases h

def T_specPut0 : Tbl := fun g E args => (addT nilT 58 Go.Proofs.Try.Dig.tb_specDec) g E args
theorem T_specPut0_ok : TblOK Try.prog T_specPut0 := (addT_ok nilT_ok (by decide +kernel) Go.Proofs.Try.Dig.tb_specDec_ok)
set_option maxRecDepth 100000 in
set_option maxHeartbeats 4000000 in
theorem specPut0 (a b : Int) (g : Bool) (s : List UInt8) : SpecE Try.prog 229 [.cells 2 false (.agg [.int .i64 0, .int .i64 0]) [.agg [.int .i64 a, .int .i64 b]], .cells 1 false (.bool false) [.bool g]] [.ptr 0 0 0 1, .str s, .ptr 1 0 0 1] [.cells 2 false (.agg [.int .i64 0, .int .i64 0]) [.agg [.int .i64 (numVal 10 1073741824 s), .int .i64 b]], .cells 1 false (.bool false) [.bool (g && decide (numErr 10 1073741824 s = 0))]] (.tuple []) := by
  refine specFE (C := T_specPut0) (wr := false) (D := fun i => if i = 1 then [8, 9] else []) (U := fun _ => none) (E := [.cells 2 false (.agg [.int .i64 0, .int .i64 0]) [.agg [.int .i64 a, .int .i64 b]], .cells 1 false (.bool false) [.bool g]]) (E' := [.cells 2 false (.agg [.int .i64 0, .int .i64 0]) [.agg [.int .i64 (numVal 10 1073741824 s), .int .i64 b]], .cells 1 false (.bool false) [.bool (g && decide (numErr 10 1073741824 s = 0))]]) (res := []) [] Try.Ty.mixed T_specPut0_ok Try.func229 (nE := 2) (nA := 3) (by decide +kernel) rfl rfl ?_
  simp only [Try.f229, bodyOf, rlOf]
  rw [W_V]
  simp (config := {maxSteps := 2000000}) only [T_specPut0, Go.Proofs.Try.Dig.tb_specDec, go_sem, reduceIte, Nat.reduceEqDiff, Nat.reduceAdd, Nat.reduceMul, Nat.reduceSub, Nat.reduceBEq, Nat.reduceLT, Nat.reduceLeDiff, reduceCtorEq, Int.reduceNeg, Int.reduceEq, String.reduceEq, Int.reduceLT, Int.reduceLE, Int.reduceToNat, Int.reduceAdd, Int.reduceMul, Int.reduceSub]
  (try simp (config := {maxSteps := 2000000}) only [gimp, impB, isT, go_sem, reduceIte, Nat.reduceEqDiff, Nat.reduceAdd, Nat.reduceMul, Nat.reduceSub, Nat.reduceBEq, Nat.reduceLT, Nat.reduceLeDiff, reduceCtorEq, Int.reduceNeg, Int.reduceEq, String.reduceEq, Int.reduceLT, Int.reduceLE, Int.reduceToNat, Int.reduceAdd, Int.reduceMul, Int.reduceSub])

def T_specPut1 : Tbl := fun g E args => (addT nilT 58 Go.Proofs.Try.Dig.tb_specDec) g E args
theorem T_specPut1_ok : TblOK Try.prog T_specPut1 := (addT_ok nilT_ok (by decide +kernel) Go.Proofs.Try.Dig.tb_specDec_ok)
set_option maxRecDepth 100000 in
set_option maxHeartbeats 4000000 in
theorem specPut1 (a b : Int) (g : Bool) (s : List UInt8) : SpecE Try.prog 229 [.cells 2 false (.agg [.int .i64 0, .int .i64 0]) [.agg [.int .i64 a, .int .i64 b]], .cells 1 false (.bool false) [.bool g]] [.ptr 0 0 1 1, .str s, .ptr 1 0 0 1] [.cells 2 false (.agg [.int .i64 0, .int .i64 0]) [.agg [.int .i64 a, .int .i64 (numVal 10 1073741824 s)]], .cells 1 false (.bool false) [.bool (g && decide (numErr 10 1073741824 s = 0))]] (.tuple []) := by
  refine specFE (C := T_specPut1) (wr := false) (D := fun i => if i = 1 then [8, 9] else []) (U := fun _ => none) (E := [.cells 2 false (.agg [.int .i64 0, .int .i64 0]) [.agg [.int .i64 a, .int .i64 b]], .cells 1 false (.bool false) [.bool g]]) (E' := [.cells 2 false (.agg [.int .i64 0, .int .i64 0]) [.agg [.int .i64 a, .int .i64 (numVal 10 1073741824 s)]], .cells 1 false (.bool false) [.bool (g && decide (numErr 10 1073741824 s = 0))]]) (res := []) [] Try.Ty.mixed T_specPut1_ok Try.func229 (nE := 2) (nA := 3) (by decide +kernel) rfl rfl ?_
  simp only [Try.f229, bodyOf, rlOf]
  rw [W_V]
  simp (config := {maxSteps := 2000000}) only [T_specPut1, Go.Proofs.Try.Dig.tb_specDec, go_sem, reduceIte, Nat.reduceEqDiff, Nat.reduceAdd, Nat.reduceMul, Nat.reduceSub, Nat.reduceBEq, Nat.reduceLT, Nat.reduceLeDiff, reduceCtorEq, Int.reduceNeg, Int.reduceEq, String.reduceEq, Int.reduceLT, Int.reduceLE, Int.reduceToNat, Int.reduceAdd, Int.reduceMul, Int.reduceSub]
  (try simp (config := {maxSteps := 2000000}) only [gimp, impB, isT, go_sem, reduceIte, Nat.reduceEqDiff, Nat.reduceAdd, Nat.reduceMul, Nat.reduceSub, Nat.reduceBEq, Nat.reduceLT, Nat.reduceLeDiff, reduceCtorEq, Int.reduceNeg, Int.reduceEq, String.reduceEq, Int.reduceLT, Int.reduceLE, Int.reduceToNat, Int.reduceAdd, Int.reduceMul, Int.reduceSub])

def tb_specPut : List Blk → List AV → Option (List Blk × AV × Prop)
  | [.cells 2 false z0 [.agg [.int .i64 a, .int .i64 b]], .cells 1 false z1 [.bool g]], [.ptr 0 0 j 1, .str s, .ptr 1 0 0 1] =>
    some ([.cells 2 false z0 [.agg [.int .i64 (if j = 0 then numVal 10 1073741824 s else a), .int .i64 (if j = 0 then b else numVal 10 1073741824 s)]], .cells 1 false z1 [.bool (g && decide (numErr 10 1073741824 s = 0))]], .tuple [],
      z0 = .agg [.int .i64 0, .int .i64 0] ∧ z1 = .bool false ∧ (j = 0 ∨ j = 1))
  | _, _ => none
theorem tb_specPut_ok : ∀ E args E' res q, tb_specPut E args = some (E', res, q) → q → SpecE Try.prog 229 E args E' res := by
  intro E args E' res q h hq
  unfold tb_specPut at h
  split at h
  · rename_i z0 a b z1 g j s
    simp only [Option.some.injEq, Prod.mk.injEq] at h
    obtain ⟨rfl, rfl, rfl⟩ := h
    obtain ⟨rfl, rfl, rfl | rfl⟩ := hq
    · exact specPut0 a b g s
    · exact specPut1 a b g s
  · cases h

def T_specAlive : Tbl := fun g E args => (addT (addT (addT (addT (addT (addT nilT 198 Go.Proofs.Try.Hdr.tb_specCombined) 35 Go.Proofs.Try.Lists.tb_specSplit) 230 Go.Proofs.Try.Lib.tb_specCut) 142 Go.Proofs.Try.Oct.tb_specTrim) 152 Go.Proofs.Try.Oct.tb_specLower) 229 Go.Proofs.Try.Con.tb_specPut) g E args
theorem T_specAlive_ok : TblOK Try.prog T_specAlive := (addT_ok (addT_ok (addT_ok (addT_ok (addT_ok (addT_ok nilT_ok (by decide +kernel) Go.Proofs.Try.Hdr.tb_specCombined_ok) (by decide +kernel) Go.Proofs.Try.Lists.tb_specSplit_ok) (by decide +kernel) Go.Proofs.Try.Lib.tb_specCut_ok) (by decide +kernel) Go.Proofs.Try.Oct.tb_specTrim_ok) (by decide +kernel) Go.Proofs.Try.Oct.tb_specLower_ok) (by decide +kernel) Go.Proofs.Try.Con.tb_specPut_ok)
set_option maxRecDepth 100000 in
set_option maxHeartbeats 4000000 in
theorem specAlive (l : List Fld) (hl : l.length ≤ 1000) (hq : ∀ f ∈ l, f.2.length ≤ 50000) : SpecE Try.prog 133 [] [enc_flds l] [] (.tuple [.agg [.int .i64 (aliveT l), .int .i64 (aliveM l)], .bool (aliveOk l)]) := by
  refine specF0 (C := T_specAlive) (wr := false) (D := fun _ => []) (U := fun _ => none) (res := [.agg [.int .i64 (aliveT l), .int .i64 (aliveM l)], .bool (aliveOk l)]) Try.Ty.mixed T_specAlive_ok Try.func133 (nA := 1) (by decide +kernel) rfl (fun _ => rfl) ?_
  simp only [Try.f133, bodyOf, rlOf]
  rw [W_V]
  simp (config := {maxSteps := 2000000}) only [T_specAlive, Go.Proofs.Try.Hdr.tb_specCombined, Go.Proofs.Try.Lists.tb_specSplit, Go.Proofs.Try.Lib.tb_specCut, Go.Proofs.Try.Oct.tb_specTrim, Go.Proofs.Try.Oct.tb_specLower, Go.Proofs.Try.Con.tb_specPut, go_sem, reduceIte, Nat.reduceEqDiff, Nat.reduceAdd, Nat.reduceMul, Nat.reduceSub, Nat.reduceBEq, Nat.reduceLT, Nat.reduceLeDiff, reduceCtorEq, Int.reduceNeg, Int.reduceEq, String.reduceEq, Int.reduceLT, Int.reduceLE, Int.reduceToNat, Int.reduceAdd, Int.reduceMul, Int.reduceSub]
  (try simp (config := {maxSteps := 2000000}) only [gimp, impB, isT, go_sem, reduceIte, Nat.reduceEqDiff, Nat.reduceAdd, Nat.reduceMul, Nat.reduceSub, Nat.reduceBEq, Nat.reduceLT, Nat.reduceLeDiff, reduceCtorEq, Int.reduceNeg, Int.reduceEq, String.reduceEq, Int.reduceLT, Int.reduceLE, Int.reduceToNat, Int.reduceAdd, Int.reduceMul, Int.reduceSub])
  have hcomb := comb_len2 nmKeepAlive hl hq
  have hm : (50002001 : Nat) ≤ maxLen := by decide
  rw [show [75, 101, 101, 112, 45, 65, 108, 105, 118, 101] = nmKeepAlive from rfl]
  have hcnt := splitS_count (combS l nmKeepAlive)
  have hsm : ∀ e ∈ splitS (combS l nmKeepAlive), e.length ≤ (combS l nmKeepAlive).length := fun e he => (splitS_mem he).1
  refine ⟨⟨hl, by decide, fun f hf => by have := hq f hf; omega⟩, by omega, fun h => ?_, fun hhas hend => ?_⟩
  · have hno : aliveOk l = false := by
      rcases h with h | h <;> simp [aliveOk, h]
    simp [aliveT, aliveM, hno]
  have hok : aliveOk l = (aliveF (splitS (combS l nmKeepAlive))).2.2 := by simp [aliveOk, hhas, hend]
  have hT : aliveT l = if aliveOk l = true then (aliveF (splitS (combS l nmKeepAlive))).1 else 0 := rfl
  have hM : aliveM l = if aliveOk l = true then (aliveF (splitS (combS l nmKeepAlive))).2.1 else 0 := rfl
  rw [hT, hM, hok]
  generalize splitS (combS l nmKeepAlive) = w at *
  refine VL_inv (X := Nat) (fun k => ⟨[(2, .ptr 48 0 0 1), (8, .ptr 144 0 0 1), (9, .ptr 160 0 0 1), (10, .clo 229 0 [.ptr 160 0 0 1]), (34, enc_strs w), (35, .int .i64 w.length), (36, .int .i64 k)], [(160, .cells 1 false (.bool false) [.bool (aliveF (w.take k)).2.2]), (144, .cells 2 false (.agg [.int .i64 0, .int .i64 0]) [.agg [.int .i64 (aliveF (w.take k)).1, .int .i64 (aliveF (w.take k)).2.1]]), (48, .cells 2 false (.agg [.int .i64 0, .int .i64 0]) [.agg [.int .i64 0, .int .i64 0]])]⟩) (fun k => k ≤ w.length) (fun k => w.length - k) 0 ?_ ?_ ?_
  · simp only [aliveF, List.take_zero, List.foldl_nil, go_sem, go_sem, reduceIte, Nat.reduceEqDiff, Nat.reduceAdd, Nat.reduceMul, Nat.reduceSub, Nat.reduceBEq, Nat.reduceLT, Nat.reduceLeDiff, reduceCtorEq, Int.reduceNeg, Int.reduceEq, String.reduceEq, Int.reduceLT, Int.reduceLE, Int.reduceToNat, Int.reduceAdd, Int.reduceMul, Int.reduceSub]
    try rfl
  · exact Nat.zero_le _
  rintro k hk
  simp (config := {maxSteps := 2000000}) only [T_specAlive, Go.Proofs.Try.Hdr.tb_specCombined, Go.Proofs.Try.Lists.tb_specSplit, Go.Proofs.Try.Lib.tb_specCut, Go.Proofs.Try.Oct.tb_specTrim, Go.Proofs.Try.Oct.tb_specLower, Go.Proofs.Try.Con.tb_specPut, go_sem, reduceIte, Nat.reduceEqDiff, Nat.reduceAdd, Nat.reduceMul, Nat.reduceSub, Nat.reduceBEq, Nat.reduceLT, Nat.reduceLeDiff, reduceCtorEq, Int.reduceNeg, Int.reduceEq, String.reduceEq, Int.reduceLT, Int.reduceLE, Int.reduceToNat, Int.reduceAdd, Int.reduceMul, Int.reduceSub]
  (try simp (config := {maxSteps := 2000000}) only [gimp, impB, isT, go_sem, reduceIte, Nat.reduceEqDiff, Nat.reduceAdd, Nat.reduceMul, Nat.reduceSub, Nat.reduceBEq, Nat.reduceLT, Nat.reduceLeDiff, reduceCtorEq, Int.reduceNeg, Int.reduceEq, String.reduceEq, Int.reduceLT, Int.reduceLE, Int.reduceToNat, Int.reduceAdd, Int.reduceMul, Int.reduceSub])
  have hstep := fun h : k < w.length => aliveF_take_succ (l := w) h
  have hmem : k < w.length → (w.getD k []).length ≤ (combS l nmKeepAlive).length := fun h => hsm _ (List.mem_of_getElem? (getD_of_lt (s := w) (d := []) h))
  have ht1 := trimS_len ((w.getD k []).take (upTo 61 (w.getD k [])))
  have ht2 : ((w.getD k []).take (upTo 61 (w.getD k []))).length ≤ (w.getD k []).length := by rw [List.length_take]; omega
  have ht3 : ((w.getD k []).drop (upTo 61 (w.getD k []) + 1)).length ≤ (w.getD k []).length := by rw [List.length_drop]; omega
  refine ⟨fun hlt => ?_, fun hge => ?_⟩
  · have hmem2 := hmem (by omega)
    have hstep2 := hstep (by omega)
    generalize w.getD k [] = e at *
    generalize aliveF (w.take k) = T at *
    refine ⟨by omega, by omega, by omega, by omega, by omega, fun h1 => ⟨by omega, k + 1, ⟨by omega, ?_⟩, by omega, by omega⟩, fun h1 => ⟨fun h2 => ⟨by omega, k + 1, ⟨by omega, ?_⟩, by omega, by omega⟩, fun h2 => ⟨fun h3 => ⟨by omega, k + 1, ⟨by omega, ?_⟩, by omega, by omega⟩, fun h3 => ⟨by omega, k + 1, ⟨by omega, ?_⟩, by omega, by omega⟩⟩⟩⟩
    · rw [hstep2, aliveStep, if_neg h1]; exact ⟨rfl, rfl⟩
    · rw [hstep2, aliveStep, if_pos h1, if_pos h2]; exact ⟨rfl, rfl⟩
    · rw [hstep2, aliveStep, if_pos h1, if_neg h2, if_pos h3]; exact ⟨rfl, rfl⟩
    · rw [hstep2, aliveStep, if_pos h1, if_neg h2, if_neg h3]; exact ⟨rfl, rfl⟩
  · rw [List.take_of_length_le (by omega)]
    exact ⟨fun h => by simp [h], fun h => by simp [h]⟩
def tb_specAlive : List Blk → List AV → Option (List Blk × AV × Prop)
  | [], [a0] => some ([], .tuple [.agg [.int .i64 (aliveT (dec_flds a0)), .int .i64 (aliveM (dec_flds a0))], .bool (aliveOk (dec_flds a0))], ((dec_flds a0).length ≤ 1000) ∧ (∀ f ∈ (dec_flds a0), f.2.length ≤ 50000) ∧ argOK a0 (enc_flds (dec_flds a0)))
  | _, _ => none
theorem tb_specAlive_ok : ∀ E args E' res p, tb_specAlive E args = some (E', res, p) → p → SpecE Try.prog 133 E args E' res := by
  intro E args E' res p h hp
  unfold tb_specAlive at h
  split at h
  · simp only [Option.some.injEq, Prod.mk.injEq] at h
    obtain ⟨rfl, rfl, rfl⟩ := h
    exact SpecE.args (specAlive _ hp.1 hp.2.1) (.cons hp.2.2 .nil)
  · cases h
end Go.Proofs.Try.Con
