/- header: whether fields are few, or the same. No condition beyond those that a machine's numbers bring. -/
import Derived.Test.YtnfidlgiaaeleaaDoorOctC
import Derived.Test.YtnfidlgiaaeleaaDoorSlcM
set_option linter.unusedVariables false
set_option linter.unusedSimpArgs false
namespace Go.Mdl
open Go Go.Abs
abbrev Fld := List UInt8 × List UInt8
/-- So few fields, and so short ones, as the statements speak of. -/
def shortF (f : Fld) : Bool := decide (f.1.length ≤ 100) && decide (f.2.length ≤ 300)
def fewF (l : List Fld) : Bool := decide (l.length ≤ 40) && l.all shortF
theorem fewF_len {l : List Fld} (h : fewF l = true) : l.length ≤ 40 ∧ ∀ f ∈ l, f.1.length ≤ 100 ∧ f.2.length ≤ 300 := by
  simp only [fewF, Bool.and_eq_true, decide_eq_true_eq, List.all_eq_true] at h
  refine ⟨h.1, fun f hf => ?_⟩
  have := h.2 f hf
  simpa only [shortF, Bool.and_eq_true, decide_eq_true_eq] using this
end Go.Mdl
namespace Go.Proofs.Tryd.HdrR
open Go Go.Abs Go.Proofs Go.Mdl

def T_specSameF : Tbl := fun g E args => nilT g E args
theorem T_specSameF_ok : TblOK Tryd.prog T_specSameF := nilT_ok
set_option maxRecDepth 100000 in
set_option maxHeartbeats 4000000 in
theorem specSameF (a b : List Fld) (h : a.length ≤ 2147483647) : SpecE Tryd.prog 11 [] [enc_flds a, enc_flds b] [] (.bool (decide (a = b))) := by
  refine specF0 (C := T_specSameF) (wr := false) (D := fun _ => []) (U := fun _ => none) (res := [.bool (decide (a = b))]) Tryd.Ty.mixed T_specSameF_ok Tryd.func11 (nA := 2) (by decide +kernel) rfl (fun _ => rfl) ?_
  simp only [Tryd.f11, bodyOf, rlOf]
  rw [W_V]
  simp (config := {maxSteps := 2000000}) only [T_specSameF, go_sem, reduceIte, Nat.reduceEqDiff, Nat.reduceAdd, Nat.reduceMul, Nat.reduceDiv, Nat.reduceMod, Nat.reduceSub, Nat.reduceBEq, Nat.reduceLT, Nat.reduceLeDiff, reduceCtorEq, Int.reduceNeg, Int.reduceEq, String.reduceEq, Int.reduceLT, Int.reduceLE, Int.reduceToNat, Int.reduceAdd, Int.reduceMul, Int.reduceSub]
  (try simp (config := {maxSteps := 2000000}) only [gimp, impB, isT, go_sem, reduceIte, Nat.reduceEqDiff, Nat.reduceAdd, Nat.reduceMul, Nat.reduceDiv, Nat.reduceMod, Nat.reduceSub, Nat.reduceBEq, Nat.reduceLT, Nat.reduceLeDiff, reduceCtorEq, Int.reduceNeg, Int.reduceEq, String.reduceEq, Int.reduceLT, Int.reduceLE, Int.reduceToNat, Int.reduceAdd, Int.reduceMul, Int.reduceSub])
  refine ⟨fun hne => ?_, fun heq => ?_⟩
  · symm; rw [decide_eq_false_iff_not]; rintro rfl; exact hne rfl
  have hl : a.length = b.length := by omega
  refine VL_inv (X := Nat) (fun x => ⟨[(0, enc_flds a), (1, enc_flds b), (5, .int .i64 x)], []⟩) (fun x => x ≤ a.length ∧ a.take x = b.take x) (fun x => a.length - x) 0 ?_ ?_ ?_
  · simp only [go_sem, go_sem, reduceIte, Nat.reduceEqDiff, Nat.reduceAdd, Nat.reduceMul, Nat.reduceDiv, Nat.reduceMod, Nat.reduceSub, Nat.reduceBEq, Nat.reduceLT, Nat.reduceLeDiff, reduceCtorEq, Int.reduceNeg, Int.reduceEq, String.reduceEq, Int.reduceLT, Int.reduceLE, Int.reduceToNat, Int.reduceAdd, Int.reduceMul, Int.reduceSub]
    try rfl
  · exact ⟨Nat.zero_le _, by simp⟩
  rintro x ⟨hx, hn⟩
  simp (config := {maxSteps := 2000000}) only [T_specSameF, go_sem, reduceIte, Nat.reduceEqDiff, Nat.reduceAdd, Nat.reduceMul, Nat.reduceDiv, Nat.reduceMod, Nat.reduceSub, Nat.reduceBEq, Nat.reduceLT, Nat.reduceLeDiff, reduceCtorEq, Int.reduceNeg, Int.reduceEq, String.reduceEq, Int.reduceLT, Int.reduceLE, Int.reduceToNat, Int.reduceAdd, Int.reduceMul, Int.reduceSub]
  (try simp (config := {maxSteps := 2000000}) only [gimp, impB, isT, go_sem, reduceIte, Nat.reduceEqDiff, Nat.reduceAdd, Nat.reduceMul, Nat.reduceDiv, Nat.reduceMod, Nat.reduceSub, Nat.reduceBEq, Nat.reduceLT, Nat.reduceLeDiff, reduceCtorEq, Int.reduceNeg, Int.reduceEq, String.reduceEq, Int.reduceLT, Int.reduceLE, Int.reduceToNat, Int.reduceAdd, Int.reduceMul, Int.reduceSub])
  refine ⟨fun hlt => ?_, fun hge => ?_⟩
  · obtain ⟨h1, h2⟩ := same_step (a := a) (b := b) (x := x) ([], []) hl (by omega) hn
    refine ⟨by omega, by omega, fun he => ?_, fun e1 e2 => ⟨by omega, x + 1, by omega, ⟨by omega, h1 (Prod.ext e1 e2)⟩, by omega⟩⟩
    have : a ≠ b := h2 (fun e => by rw [e] at he; simp at he)
    simp [this]
  · have : x = a.length := by omega
    subst this
    rw [List.take_length, hl, List.take_length] at hn
    simp [hn]
def tb_specSameF : List Blk → List AV → Option (List Blk × AV × Prop)
  | [], [a0, a1] => some ([], .bool (decide ((dec_flds a0) = (dec_flds a1))), ((dec_flds a0).length ≤ 2147483647) ∧ argOK a0 (enc_flds (dec_flds a0)) ∧ argOK a1 (enc_flds (dec_flds a1)))
  | _, _ => none
theorem tb_specSameF_ok : ∀ E args E' res p, tb_specSameF E args = some (E', res, p) → p → SpecE Tryd.prog 11 E args E' res := by
  intro E args E' res p h hp
  unfold tb_specSameF at h
  split at h
  · simp only [Option.some.injEq, Prod.mk.injEq] at h
    obtain ⟨rfl, rfl, rfl⟩ := h
    exact SpecE.args (specSameF _ _ hp.1) (.cons hp.2.1 (.cons hp.2.2 .nil))
  · cases h

def T_specFew : Tbl := fun g E args => nilT g E args
theorem T_specFew_ok : TblOK Tryd.prog T_specFew := nilT_ok
set_option maxRecDepth 100000 in
set_option maxHeartbeats 4000000 in
theorem specFew (l : List Fld) (h : l.length ≤ maxLen) : SpecE Tryd.prog 7 [] [enc_flds l] [] (.bool (fewF l)) := by
  refine specF0 (C := T_specFew) (wr := false) (D := fun _ => []) (U := fun _ => none) (res := [.bool (fewF l)]) Tryd.Ty.mixed T_specFew_ok Tryd.func7 (nA := 1) (by decide +kernel) rfl (fun _ => rfl) ?_
  simp only [Tryd.f7, bodyOf, rlOf]
  rw [W_V]
  simp (config := {maxSteps := 2000000}) only [T_specFew, go_sem, reduceIte, Nat.reduceEqDiff, Nat.reduceAdd, Nat.reduceMul, Nat.reduceDiv, Nat.reduceMod, Nat.reduceSub, Nat.reduceBEq, Nat.reduceLT, Nat.reduceLeDiff, reduceCtorEq, Int.reduceNeg, Int.reduceEq, String.reduceEq, Int.reduceLT, Int.reduceLE, Int.reduceToNat, Int.reduceAdd, Int.reduceMul, Int.reduceSub]
  (try simp (config := {maxSteps := 2000000}) only [gimp, impB, isT, go_sem, reduceIte, Nat.reduceEqDiff, Nat.reduceAdd, Nat.reduceMul, Nat.reduceDiv, Nat.reduceMod, Nat.reduceSub, Nat.reduceBEq, Nat.reduceLT, Nat.reduceLeDiff, reduceCtorEq, Int.reduceNeg, Int.reduceEq, String.reduceEq, Int.reduceLT, Int.reduceLE, Int.reduceToNat, Int.reduceAdd, Int.reduceMul, Int.reduceSub])
  refine ⟨fun h => by simp [fewF]; omega, fun h40 => ?_⟩
  refine VL_inv (X := Nat) (fun k => ⟨[(8, enc_flds l), (9, .int .i64 l.length), (10, .int .i64 k)], []⟩) (fun k => k ≤ l.length ∧ (l.take k).all shortF = true) (fun k => l.length - k) 0 ?_ ?_ ?_
  · simp only [go_sem, go_sem, reduceIte, Nat.reduceEqDiff, Nat.reduceAdd, Nat.reduceMul, Nat.reduceDiv, Nat.reduceMod, Nat.reduceSub, Nat.reduceBEq, Nat.reduceLT, Nat.reduceLeDiff, reduceCtorEq, Int.reduceNeg, Int.reduceEq, String.reduceEq, Int.reduceLT, Int.reduceLE, Int.reduceToNat, Int.reduceAdd, Int.reduceMul, Int.reduceSub]
    try rfl
  · exact ⟨Nat.zero_le _, by simp⟩
  rintro k ⟨hk, hn⟩
  simp (config := {maxSteps := 2000000}) only [T_specFew, go_sem, reduceIte, Nat.reduceEqDiff, Nat.reduceAdd, Nat.reduceMul, Nat.reduceDiv, Nat.reduceMod, Nat.reduceSub, Nat.reduceBEq, Nat.reduceLT, Nat.reduceLeDiff, reduceCtorEq, Int.reduceNeg, Int.reduceEq, String.reduceEq, Int.reduceLT, Int.reduceLE, Int.reduceToNat, Int.reduceAdd, Int.reduceMul, Int.reduceSub]
  (try simp (config := {maxSteps := 2000000}) only [gimp, impB, isT, go_sem, reduceIte, Nat.reduceEqDiff, Nat.reduceAdd, Nat.reduceMul, Nat.reduceDiv, Nat.reduceMod, Nat.reduceSub, Nat.reduceBEq, Nat.reduceLT, Nat.reduceLeDiff, reduceCtorEq, Int.reduceNeg, Int.reduceEq, String.reduceEq, Int.reduceLT, Int.reduceLE, Int.reduceToNat, Int.reduceAdd, Int.reduceMul, Int.reduceSub])
  have hmem : k < l.length → l.getD k ([], []) ∈ l := fun h => List.mem_of_getElem? (getD_of_lt (s := l) (d := ([], [])) h)
  (repeat' (first | refine And.intro ?_ ?_ | intro _))
  all_goals (try first | omega | assumption | contradiction)
  · rename_i h1 h2
    have hs : shortF (l.getD k ([], [])) = false := by
      simp only [shortF, Bool.and_eq_false_iff, decide_eq_false_iff_not]; omega
    have : l.all shortF = false := List.all_eq_false.2 ⟨_, hmem (by omega), by rw [hs]; simp⟩
    simp [fewF, this]
  · rename_i h1 h2 h3
    refine ⟨k + 1, by omega, ⟨by omega, ?_⟩, by omega⟩
    rw [take_succ_getD ([], []) (by omega), List.all_append, hn]
    simp only [List.all_cons, List.all_nil, Bool.and_true, Bool.true_and, shortF, Bool.and_eq_true, decide_eq_true_eq]
    omega
  · have : k = l.length := by omega
    subst this
    rw [List.take_length] at hn
    simp [fewF, hn]; omega
def tb_specFew : List Blk → List AV → Option (List Blk × AV × Prop)
  | [], [a0] => some ([], .bool (fewF (dec_flds a0)), ((dec_flds a0).length ≤ maxLen) ∧ argOK a0 (enc_flds (dec_flds a0)))
  | _, _ => none
theorem tb_specFew_ok : ∀ E args E' res p, tb_specFew E args = some (E', res, p) → p → SpecE Tryd.prog 7 E args E' res := by
  intro E args E' res p h hp
  unfold tb_specFew at h
  split at h
  · simp only [Option.some.injEq, Prod.mk.injEq] at h
    obtain ⟨rfl, rfl, rfl⟩ := h
    exact SpecE.args (specFew _ hp.1) (.cons hp.2 .nil)
  · cases h
end Go.Proofs.Tryd.HdrR
