/- field: the statements' code. No condition beyond those that a machine's numbers bring. -/
import Derived.Test.YtnfidlgiaaeleaaDoorFldU
import Derived.Test.YtnfidlgiaaeleaaDoorHdrF
set_option linter.unusedVariables false
set_option linter.unusedSimpArgs false
namespace Go.Mdl
open Go Go.Abs
def shortL (s : List UInt8) : Bool := decide (s.length ≤ 300)
def fewL (l : List (List UInt8)) : Bool := decide (l.length ≤ 40) && l.all shortL
theorem fewL_len {l : List (List UInt8)} (h : fewL l = true) : l.length ≤ 40 ∧ ∀ x ∈ l, x.length ≤ 300 := by
  simp only [fewL, Bool.and_eq_true, decide_eq_true_eq, List.all_eq_true] at h
  refine ⟨h.1, fun f hf => ?_⟩
  have := h.2 f hf
  simpa only [shortL, decide_eq_true_eq] using this
theorem unf_same {fold : Int} : ∀ (l out : List (List UInt8)), (∀ x ∈ l, goesB x = false) → l.foldl (unfStep fold) (some out) = some (out ++ l)
  | [], out, _ => by simp
  | a :: r, out, h => by
    have ha := h a (by simp)
    rw [List.foldl_cons]
    have e : unfStep fold (some out) a = some (out ++ [a]) := by simp only [unfStep, ha]; simp
    rw [e, unf_same r _ (fun x hx => h x (by simp [hx]))]
    simp
theorem unf_stays {fold : Int} {l : List (List UInt8)} (h : ∀ x ∈ l, goesB x = false) : unfS fold l = l ∧ unfErr fold l = 0 := by
  have := unf_same (fold := fold) l [] h
  rw [List.nil_append] at this
  have e : unfO fold l = some l := this
  simp [unfS, unfErr, e]
end Go.Mdl
namespace Go.Proofs.Tryd.Fld
open Go Go.Abs Go.Proofs Go.Mdl

def T_specFewL : Tbl := fun g E args => nilT g E args
theorem T_specFewL_ok : TblOK Tryd.prog T_specFewL := nilT_ok
set_option maxRecDepth 100000 in
set_option maxHeartbeats 4000000 in
theorem specFewL (l : List (List UInt8)) (h : l.length ≤ maxLen) : SpecE Tryd.prog 14 [] [enc_strs l] [] (.bool (fewL l)) := by
  refine specF0 (C := T_specFewL) (wr := false) (D := fun _ => []) (U := fun _ => none) (res := [.bool (fewL l)]) Tryd.Ty.mixed T_specFewL_ok Tryd.func14 (nA := 1) (by decide +kernel) rfl (fun _ => rfl) ?_
  simp only [Tryd.f14, bodyOf, rlOf]
  rw [W_V]
  simp (config := {maxSteps := 2000000}) only [T_specFewL, go_sem, reduceIte, Nat.reduceEqDiff, Nat.reduceAdd, Nat.reduceMul, Nat.reduceDiv, Nat.reduceMod, Nat.reduceSub, Nat.reduceBEq, Nat.reduceLT, Nat.reduceLeDiff, reduceCtorEq, Int.reduceNeg, Int.reduceEq, String.reduceEq, Int.reduceLT, Int.reduceLE, Int.reduceToNat, Int.reduceAdd, Int.reduceMul, Int.reduceSub]
  (try simp (config := {maxSteps := 2000000}) only [gimp, impB, isT, go_sem, reduceIte, Nat.reduceEqDiff, Nat.reduceAdd, Nat.reduceMul, Nat.reduceDiv, Nat.reduceMod, Nat.reduceSub, Nat.reduceBEq, Nat.reduceLT, Nat.reduceLeDiff, reduceCtorEq, Int.reduceNeg, Int.reduceEq, String.reduceEq, Int.reduceLT, Int.reduceLE, Int.reduceToNat, Int.reduceAdd, Int.reduceMul, Int.reduceSub])
  refine ⟨fun h => by simp [fewL]; omega, fun h40 => ?_⟩
  refine VL_inv (X := Nat) (fun k => ⟨[(8, enc_strs l), (9, .int .i64 l.length), (10, .int .i64 k)], []⟩) (fun k => k ≤ l.length ∧ (l.take k).all shortL = true) (fun k => l.length - k) 0 ?_ ?_ ?_
  · simp only [T_specFewL, go_sem, reduceIte, Nat.reduceEqDiff, Nat.reduceAdd, Nat.reduceMul, Nat.reduceDiv, Nat.reduceMod, Nat.reduceSub, Nat.reduceBEq, Nat.reduceLT, Nat.reduceLeDiff, reduceCtorEq, Int.reduceNeg, Int.reduceEq, String.reduceEq, Int.reduceLT, Int.reduceLE, Int.reduceToNat, Int.reduceAdd, Int.reduceMul, Int.reduceSub]
    try rfl
  · exact ⟨Nat.zero_le _, by simp⟩
  rintro k ⟨hk, hn⟩
  simp (config := {maxSteps := 2000000}) only [T_specFewL, go_sem, reduceIte, Nat.reduceEqDiff, Nat.reduceAdd, Nat.reduceMul, Nat.reduceDiv, Nat.reduceMod, Nat.reduceSub, Nat.reduceBEq, Nat.reduceLT, Nat.reduceLeDiff, reduceCtorEq, Int.reduceNeg, Int.reduceEq, String.reduceEq, Int.reduceLT, Int.reduceLE, Int.reduceToNat, Int.reduceAdd, Int.reduceMul, Int.reduceSub]
  (try simp (config := {maxSteps := 2000000}) only [gimp, impB, isT, go_sem, reduceIte, Nat.reduceEqDiff, Nat.reduceAdd, Nat.reduceMul, Nat.reduceDiv, Nat.reduceMod, Nat.reduceSub, Nat.reduceBEq, Nat.reduceLT, Nat.reduceLeDiff, reduceCtorEq, Int.reduceNeg, Int.reduceEq, String.reduceEq, Int.reduceLT, Int.reduceLE, Int.reduceToNat, Int.reduceAdd, Int.reduceMul, Int.reduceSub])
  have hmem : k < l.length → l.getD k [] ∈ l := fun h => List.mem_of_getElem? (getD_of_lt (s := l) (d := []) h)
  refine ⟨fun hlt => ⟨by omega, fun hg => ?_, fun hg => ⟨by omega, k + 1, by omega, ⟨by omega, ?_⟩, by omega⟩⟩, fun hge => ?_⟩
  · have hs : shortL (l.getD k []) = false := by rw [shortL, decide_eq_false_iff_not]; omega
    have : l.all shortL = false := List.all_eq_false.2 ⟨_, hmem (by omega), by rw [hs]; simp⟩
    simp [fewL, this]
  · rw [take_succ_getD [] (by omega), List.all_append, hn]
    simp only [List.all_cons, List.all_nil, Bool.and_true, Bool.true_and, shortL, decide_eq_true_eq]
    omega
  · have : k = l.length := by omega
    subst this
    rw [List.take_length] at hn
    simp [fewL, hn]; omega
def tb_specFewL : List Blk → List AV → Option (List Blk × AV × Prop)
  | [], [a0] => some ([], .bool (fewL (dec_strs a0)), ((dec_strs a0).length ≤ maxLen) ∧ argOK a0 (enc_strs (dec_strs a0)))
  | _, _ => none
theorem tb_specFewL_ok : ∀ E args E' res p, tb_specFewL E args = some (E', res, p) → p → SpecE Tryd.prog 14 E args E' res := by
  intro E args E' res p h hp
  unfold tb_specFewL at h
  split at h
  · simp only [Option.some.injEq, Prod.mk.injEq] at h
    obtain ⟨rfl, rfl, rfl⟩ := h
    exact SpecE.args (specFewL _ hp.1) (.cons hp.2 .nil)
  · cases h

def T_specLawUnfolds : Tbl := fun g E args => (addT (addT (addT (addT (addT (addT (addT (addT nilT 14 Go.Proofs.Tryd.Fld.tb_specFewL) 20 Go.Proofs.Tryd.Fld.tb_specUnfold) 22 Go.Proofs.Tryd.Fld.tb_specUnfoldR) 23 Go.Proofs.Tryd.Fld.tb_specAllU) 24 Go.Proofs.Tryd.Fld.tb_specAllR) 21 Go.Proofs.Tryd.Oct.tb_specSame) 11 Go.Proofs.Tryd.HdrR.tb_specSameF) 15 Go.Proofs.Tryd.Fld.tb_specLives) g E args
theorem T_specLawUnfolds_ok : TblOK Tryd.prog T_specLawUnfolds := (addT_ok (addT_ok (addT_ok (addT_ok (addT_ok (addT_ok (addT_ok (addT_ok nilT_ok (by decide +kernel) Go.Proofs.Tryd.Fld.tb_specFewL_ok) (by decide +kernel) Go.Proofs.Tryd.Fld.tb_specUnfold_ok) (by decide +kernel) Go.Proofs.Tryd.Fld.tb_specUnfoldR_ok) (by decide +kernel) Go.Proofs.Tryd.Fld.tb_specAllU_ok) (by decide +kernel) Go.Proofs.Tryd.Fld.tb_specAllR_ok) (by decide +kernel) Go.Proofs.Tryd.Oct.tb_specSame_ok) (by decide +kernel) Go.Proofs.Tryd.HdrR.tb_specSameF_ok) (by decide +kernel) Go.Proofs.Tryd.Fld.tb_specLives_ok)
set_option maxRecDepth 100000 in
set_option maxHeartbeats 4000000 in
theorem specLawUnfolds (fold : Int) (l : List (List UInt8)) (hf : inR .i64 fold) (hl : l.length ≤ maxLen) (hq : ∀ x ∈ l, x.length ≤ maxLen) : SpecE Tryd.prog 6 [] [.int .i64 fold, enc_strs l] [] (.bool true) := by
  refine specF0 (C := T_specLawUnfolds) (wr := false) (D := fun _ => []) (U := fun _ => none) (res := [.bool true]) Tryd.Ty.mixed T_specLawUnfolds_ok Tryd.func6 (nA := 2) (by decide +kernel) rfl (fun _ => rfl) ?_
  simp only [Tryd.f6, bodyOf, rlOf]
  rw [W_V]
  simp (config := {maxSteps := 2000000}) only [T_specLawUnfolds, Go.Proofs.Tryd.Fld.tb_specFewL, Go.Proofs.Tryd.Fld.tb_specUnfold, Go.Proofs.Tryd.Fld.tb_specUnfoldR, Go.Proofs.Tryd.Fld.tb_specAllU, Go.Proofs.Tryd.Fld.tb_specAllR, Go.Proofs.Tryd.Oct.tb_specSame, Go.Proofs.Tryd.HdrR.tb_specSameF, Go.Proofs.Tryd.Fld.tb_specLives, go_sem, reduceIte, Nat.reduceEqDiff, Nat.reduceAdd, Nat.reduceMul, Nat.reduceDiv, Nat.reduceMod, Nat.reduceSub, Nat.reduceBEq, Nat.reduceLT, Nat.reduceLeDiff, reduceCtorEq, Int.reduceNeg, Int.reduceEq, String.reduceEq, Int.reduceLT, Int.reduceLE, Int.reduceToNat, Int.reduceAdd, Int.reduceMul, Int.reduceSub]
  (try simp (config := {maxSteps := 2000000}) only [gimp, impB, isT, go_sem, reduceIte, Nat.reduceEqDiff, Nat.reduceAdd, Nat.reduceMul, Nat.reduceDiv, Nat.reduceMod, Nat.reduceSub, Nat.reduceBEq, Nat.reduceLT, Nat.reduceLeDiff, reduceCtorEq, Int.reduceNeg, Int.reduceEq, String.reduceEq, Int.reduceLT, Int.reduceLE, Int.reduceToNat, Int.reduceAdd, Int.reduceMul, Int.reduceSub])
  refine ⟨hl, fun hfew => ?_⟩
  obtain ⟨f1, f2⟩ := fewL_len hfew
  have g : ∀ x ∈ l, x.length ≤ 1000 := fun x hx => by have := f2 x hx; omega
  obtain ⟨b1, -⟩ := unfS_bound (fold := fold) (show l.length ≤ 100 by omega) g
  have b2 : (fldsU fold l).length ≤ 100 := by
    unfold fldsU
    split
    · rw [List.length_map]; exact b1
    · simp
  exact ⟨⟨by omega, g⟩, ⟨by omega, g⟩, ⟨by omega, g⟩, ⟨by omega, g⟩, by omega, by omega⟩
def tb_specLawUnfolds : List Blk → List AV → Option (List Blk × AV × Prop)
  | [], [.int .i64 fold, a1] => some ([], .bool true, (inR .i64 fold) ∧ ((dec_strs a1).length ≤ maxLen) ∧ (∀ x ∈ (dec_strs a1), x.length ≤ maxLen) ∧ argOK a1 (enc_strs (dec_strs a1)))
  | _, _ => none
theorem tb_specLawUnfolds_ok : ∀ E args E' res p, tb_specLawUnfolds E args = some (E', res, p) → p → SpecE Tryd.prog 6 E args E' res := by
  intro E args E' res p h hp
  unfold tb_specLawUnfolds at h
  split at h
  · simp only [Option.some.injEq, Prod.mk.injEq] at h
    obtain ⟨rfl, rfl, rfl⟩ := h
    exact SpecE.args (specLawUnfolds _ _ hp.1 hp.2.1 hp.2.2.1) (.cons (argOK.refl _) (.cons hp.2.2.2 .nil))
  · cases h

def T_specLawBack : Tbl := fun g E args => (addT (addT (addT (addT (addT (addT (addT (addT nilT 14 Go.Proofs.Tryd.Fld.tb_specFewL) 16 Go.Proofs.Tryd.Fld.tb_specParse) 17 Go.Proofs.Tryd.Fld.tb_specLine) 18 Go.Proofs.Tryd.Fld.tb_specRight) 19 Go.Proofs.Tryd.Fld.tb_specGoesR) 20 Go.Proofs.Tryd.Fld.tb_specUnfold) 21 Go.Proofs.Tryd.Oct.tb_specSame) 15 Go.Proofs.Tryd.Fld.tb_specLives) g E args
theorem T_specLawBack_ok : TblOK Tryd.prog T_specLawBack := (addT_ok (addT_ok (addT_ok (addT_ok (addT_ok (addT_ok (addT_ok (addT_ok nilT_ok (by decide +kernel) Go.Proofs.Tryd.Fld.tb_specFewL_ok) (by decide +kernel) Go.Proofs.Tryd.Fld.tb_specParse_ok) (by decide +kernel) Go.Proofs.Tryd.Fld.tb_specLine_ok) (by decide +kernel) Go.Proofs.Tryd.Fld.tb_specRight_ok) (by decide +kernel) Go.Proofs.Tryd.Fld.tb_specGoesR_ok) (by decide +kernel) Go.Proofs.Tryd.Fld.tb_specUnfold_ok) (by decide +kernel) Go.Proofs.Tryd.Oct.tb_specSame_ok) (by decide +kernel) Go.Proofs.Tryd.Fld.tb_specLives_ok)
set_option maxRecDepth 100000 in
set_option maxHeartbeats 4000000 in
theorem specLawBack (n v line : List UInt8) (l : List (List UInt8)) (hl : l.length ≤ maxLen) (hq : ∀ x ∈ l, x.length ≤ maxLen) : SpecE Tryd.prog 5 [] [.agg [.str n, .str v], .str line, enc_strs l] [] (.bool true) := by
  refine specF0 (C := T_specLawBack) (wr := false) (D := fun _ => []) (U := fun _ => none) (res := [.bool true]) Tryd.Ty.mixed T_specLawBack_ok Tryd.func5 (nA := 3) (by decide +kernel) rfl (fun _ => rfl) ?_
  simp only [Tryd.f5, bodyOf, rlOf]
  rw [W_V]
  simp (config := {maxSteps := 2000000}) only [T_specLawBack, Go.Proofs.Tryd.Fld.tb_specFewL, Go.Proofs.Tryd.Fld.tb_specParse, Go.Proofs.Tryd.Fld.tb_specLine, Go.Proofs.Tryd.Fld.tb_specRight, Go.Proofs.Tryd.Fld.tb_specGoesR, Go.Proofs.Tryd.Fld.tb_specUnfold, Go.Proofs.Tryd.Oct.tb_specSame, Go.Proofs.Tryd.Fld.tb_specLives, go_sem, reduceIte, Nat.reduceEqDiff, Nat.reduceAdd, Nat.reduceMul, Nat.reduceDiv, Nat.reduceMod, Nat.reduceSub, Nat.reduceBEq, Nat.reduceLT, Nat.reduceLeDiff, reduceCtorEq, Int.reduceNeg, Int.reduceEq, String.reduceEq, Int.reduceLT, Int.reduceLE, Int.reduceToNat, Int.reduceAdd, Int.reduceMul, Int.reduceSub]
  (try simp (config := {maxSteps := 2000000}) only [gimp, impB, isT, go_sem, reduceIte, Nat.reduceEqDiff, Nat.reduceAdd, Nat.reduceMul, Nat.reduceDiv, Nat.reduceMod, Nat.reduceSub, Nat.reduceBEq, Nat.reduceLT, Nat.reduceLeDiff, reduceCtorEq, Int.reduceNeg, Int.reduceEq, String.reduceEq, Int.reduceLT, Int.reduceLE, Int.reduceToNat, Int.reduceAdd, Int.reduceMul, Int.reduceSub])
  refine ⟨hl, fun hfew hnl hvl => ?_⟩
  obtain ⟨f1, f2⟩ := fewL_len hfew
  have g : ∀ x ∈ l, x.length ≤ 1000 := fun x hx => by have := f2 x hx; omega
  have hm : (1000000 : Nat) ≤ maxLen := by decide
  have hll : (fldLine n v).length ≤ 2000 := by unfold fldLine; split <;> simp <;> omega
  have hlt : (line.take 1000).length ≤ 1000 := by rw [List.length_take]; omega
  generalize line.take 1000 = w at *
  have hvw : (fldValue w).length ≤ 1000 := by
    unfold fldValue
    split
    · have := trimU_len (w.drop (upTo 58 w + 1))
      rw [List.length_drop] at this; omega
    · simp
  refine ⟨⟨by omega, by omega⟩, by omega, by omega, fun hr h => ?_, fun _ => ⟨by omega, fun _ => by omega, fun h => ?_, fun _ _ => ?_⟩⟩
  · obtain ⟨l1, l2, l3⟩ := line_back hr
    rw [l1, l2, l3] at h
    simp at h
  · rcases h with ⟨h1, h2⟩ | ⟨h1, h2⟩
    · rw [read_right h1] at h2; cases h2
    · obtain ⟨l1, l2⟩ := read_none h1
      rw [l1, l2] at h2; simp at h2
  refine VL_inv (X := Nat) (fun k => ⟨[(2, enc_strs l), (76, enc_strs l), (77, .int .i64 l.length), (78, .int .i64 k)], []⟩) (fun k => k ≤ l.length ∧ ∀ x ∈ l.take k, goesB x = false) (fun k => l.length - k) 0 ?_ ?_ ?_
  · simp only [T_specLawBack, Go.Proofs.Tryd.Fld.tb_specFewL, Go.Proofs.Tryd.Fld.tb_specParse, Go.Proofs.Tryd.Fld.tb_specLine, Go.Proofs.Tryd.Fld.tb_specRight, Go.Proofs.Tryd.Fld.tb_specGoesR, Go.Proofs.Tryd.Fld.tb_specUnfold, Go.Proofs.Tryd.Oct.tb_specSame, Go.Proofs.Tryd.Fld.tb_specLives, go_sem, reduceIte, Nat.reduceEqDiff, Nat.reduceAdd, Nat.reduceMul, Nat.reduceDiv, Nat.reduceMod, Nat.reduceSub, Nat.reduceBEq, Nat.reduceLT, Nat.reduceLeDiff, reduceCtorEq, Int.reduceNeg, Int.reduceEq, String.reduceEq, Int.reduceLT, Int.reduceLE, Int.reduceToNat, Int.reduceAdd, Int.reduceMul, Int.reduceSub]
    try rfl
  · exact ⟨Nat.zero_le _, by simp⟩
  rintro k ⟨hk, hn⟩
  simp (config := {maxSteps := 2000000}) only [T_specLawBack, Go.Proofs.Tryd.Fld.tb_specFewL, Go.Proofs.Tryd.Fld.tb_specParse, Go.Proofs.Tryd.Fld.tb_specLine, Go.Proofs.Tryd.Fld.tb_specRight, Go.Proofs.Tryd.Fld.tb_specGoesR, Go.Proofs.Tryd.Fld.tb_specUnfold, Go.Proofs.Tryd.Oct.tb_specSame, Go.Proofs.Tryd.Fld.tb_specLives, go_sem, reduceIte, Nat.reduceEqDiff, Nat.reduceAdd, Nat.reduceMul, Nat.reduceDiv, Nat.reduceMod, Nat.reduceSub, Nat.reduceBEq, Nat.reduceLT, Nat.reduceLeDiff, reduceCtorEq, Int.reduceNeg, Int.reduceEq, String.reduceEq, Int.reduceLT, Int.reduceLE, Int.reduceToNat, Int.reduceAdd, Int.reduceMul, Int.reduceSub]
  (try simp (config := {maxSteps := 2000000}) only [gimp, impB, isT, go_sem, reduceIte, Nat.reduceEqDiff, Nat.reduceAdd, Nat.reduceMul, Nat.reduceDiv, Nat.reduceMod, Nat.reduceSub, Nat.reduceBEq, Nat.reduceLT, Nat.reduceLeDiff, reduceCtorEq, Int.reduceNeg, Int.reduceEq, String.reduceEq, Int.reduceLT, Int.reduceLE, Int.reduceToNat, Int.reduceAdd, Int.reduceMul, Int.reduceSub])
  refine ⟨fun hlt => ⟨by omega, fun hg => ⟨by omega, k + 1, by omega, ⟨by omega, fun x hx => ?_⟩, by omega⟩⟩, fun hge => ?_⟩
  · rw [take_succ_getD [] (show k < l.length by omega)] at hx
    rcases List.mem_append.1 hx with hx | hx
    · exact hn x hx
    · obtain rfl := List.mem_singleton.1 hx; exact hg
  · have : k = l.length := by omega
    subst this
    rw [List.take_length] at hn
    obtain ⟨a0, b0⟩ := unf_stays (fold := 0) hn
    obtain ⟨a1, b1⟩ := unf_stays (fold := 1) hn
    rw [a0, a1, b0, b1]
    exact ⟨⟨by omega, g⟩, ⟨by omega, g⟩, by omega, fun _ => by omega, ⟨⟨rfl, rfl⟩, rfl⟩, rfl⟩
def tb_specLawBack : List Blk → List AV → Option (List Blk × AV × Prop)
  | [], [.agg [.str n, .str v], .str line, a2] => some ([], .bool true, ((dec_strs a2).length ≤ maxLen) ∧ (∀ x ∈ (dec_strs a2), x.length ≤ maxLen) ∧ argOK a2 (enc_strs (dec_strs a2)))
  | _, _ => none
theorem tb_specLawBack_ok : ∀ E args E' res p, tb_specLawBack E args = some (E', res, p) → p → SpecE Tryd.prog 5 E args E' res := by
  intro E args E' res p h hp
  unfold tb_specLawBack at h
  split at h
  · simp only [Option.some.injEq, Prod.mk.injEq] at h
    obtain ⟨rfl, rfl, rfl⟩ := h
    exact SpecE.args (specLawBack _ _ _ _ hp.1 hp.2.1) (.cons (argOK.refl _) (.cons (argOK.refl _) (.cons hp.2.2 .nil)))
  · cases h
end Go.Proofs.Tryd.Fld
