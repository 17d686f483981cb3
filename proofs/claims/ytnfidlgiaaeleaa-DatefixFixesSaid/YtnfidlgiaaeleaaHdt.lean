/- httpdate: the walks of the reader. No condition beyond those that a machine's numbers bring. -/
import Derived.Test.YtnfidlgiaaeleaaHdtM
import Derived.Test.YtnfidlgiaaeleaaSlcM
import Derived.Test.YtnfidlgiaaeleaaDig
import Derived.Test.YtnfidlgiaaeleaaLibS
set_option linter.unusedVariables false
set_option linter.unusedSimpArgs false
namespace Go.Proofs.Try.Hdt
open Go Go.Abs Go.Proofs Go.Mdl

def T_specDaysH : Tbl := fun g E args => nilT g E args
theorem T_specDaysH_ok : TblOK Try.prog T_specDaysH := nilT_ok
set_option maxRecDepth 100000 in
set_option maxHeartbeats 4000000 in
theorem specDaysH : SpecE Try.prog 52 [] [] [] (.agg (hdDays.map .str)) := by
  refine specF0 (C := T_specDaysH) (wr := false) (D := fun _ => []) (U := fun _ => none) (res := [.agg (hdDays.map .str)]) Try.Ty.mixed T_specDaysH_ok Try.func52 (nA := 0) (by decide +kernel) rfl (fun _ => rfl) ?_
  simp only [Try.f52, bodyOf, rlOf]
  rw [W_V]
  simp (config := {maxSteps := 2000000}) only [T_specDaysH, go_sem, reduceIte, Nat.reduceEqDiff, Nat.reduceAdd, Nat.reduceMul, Nat.reduceDiv, Nat.reduceMod, Nat.reduceSub, Nat.reduceBEq, Nat.reduceLT, Nat.reduceLeDiff, reduceCtorEq, Int.reduceNeg, Int.reduceEq, String.reduceEq, Int.reduceLT, Int.reduceLE, Int.reduceToNat, Int.reduceAdd, Int.reduceMul, Int.reduceSub, hdDays]
  (try simp (config := {maxSteps := 2000000}) only [gimp, impB, isT, go_sem, reduceIte, Nat.reduceEqDiff, Nat.reduceAdd, Nat.reduceMul, Nat.reduceDiv, Nat.reduceMod, Nat.reduceSub, Nat.reduceBEq, Nat.reduceLT, Nat.reduceLeDiff, reduceCtorEq, Int.reduceNeg, Int.reduceEq, String.reduceEq, Int.reduceLT, Int.reduceLE, Int.reduceToNat, Int.reduceAdd, Int.reduceMul, Int.reduceSub])
def tb_specDaysH : List Blk → List AV → Option (List Blk × AV × Prop)
  | [], [] => some ([], .agg (hdDays.map .str), True)
  | _, _ => none
theorem tb_specDaysH_ok : ∀ E args E' res p, tb_specDaysH E args = some (E', res, p) → p → SpecE Try.prog 52 E args E' res := by
  intro E args E' res p h hp
  unfold tb_specDaysH at h
  split at h
  · simp only [Option.some.injEq, Prod.mk.injEq] at h
    obtain ⟨rfl, rfl, rfl⟩ := h
    exact specDaysH
  · cases h

def T_specMonthsH : Tbl := fun g E args => nilT g E args
theorem T_specMonthsH_ok : TblOK Try.prog T_specMonthsH := nilT_ok
set_option maxRecDepth 100000 in
set_option maxHeartbeats 4000000 in
theorem specMonthsH : SpecE Try.prog 54 [] [] [] (.agg (hdMonths.map .str)) := by
  refine specF0 (C := T_specMonthsH) (wr := false) (D := fun _ => []) (U := fun _ => none) (res := [.agg (hdMonths.map .str)]) Try.Ty.mixed T_specMonthsH_ok Try.func54 (nA := 0) (by decide +kernel) rfl (fun _ => rfl) ?_
  simp only [Try.f54, bodyOf, rlOf]
  rw [W_V]
  simp (config := {maxSteps := 2000000}) only [T_specMonthsH, go_sem, reduceIte, Nat.reduceEqDiff, Nat.reduceAdd, Nat.reduceMul, Nat.reduceDiv, Nat.reduceMod, Nat.reduceSub, Nat.reduceBEq, Nat.reduceLT, Nat.reduceLeDiff, reduceCtorEq, Int.reduceNeg, Int.reduceEq, String.reduceEq, Int.reduceLT, Int.reduceLE, Int.reduceToNat, Int.reduceAdd, Int.reduceMul, Int.reduceSub, hdMonths]
  (try simp (config := {maxSteps := 2000000}) only [gimp, impB, isT, go_sem, reduceIte, Nat.reduceEqDiff, Nat.reduceAdd, Nat.reduceMul, Nat.reduceDiv, Nat.reduceMod, Nat.reduceSub, Nat.reduceBEq, Nat.reduceLT, Nat.reduceLeDiff, reduceCtorEq, Int.reduceNeg, Int.reduceEq, String.reduceEq, Int.reduceLT, Int.reduceLE, Int.reduceToNat, Int.reduceAdd, Int.reduceMul, Int.reduceSub])
def tb_specMonthsH : List Blk → List AV → Option (List Blk × AV × Prop)
  | [], [] => some ([], .agg (hdMonths.map .str), True)
  | _, _ => none
theorem tb_specMonthsH_ok : ∀ E args E' res p, tb_specMonthsH E args = some (E', res, p) → p → SpecE Try.prog 54 E args E' res := by
  intro E args E' res p h hp
  unfold tb_specMonthsH at h
  split at h
  · simp only [Option.some.injEq, Prod.mk.injEq] at h
    obtain ⟨rfl, rfl, rfl⟩ := h
    exact specMonthsH
  · cases h

def T_specWord : Tbl := fun g E args => (addT nilT 103 Go.Proofs.Try.Lib.tb_specHasPrefix) g E args
theorem T_specWord_ok : TblOK Try.prog T_specWord := (addT_ok nilT_ok (by decide +kernel) Go.Proofs.Try.Lib.tb_specHasPrefix_ok)
set_option maxRecDepth 100000 in
set_option maxHeartbeats 4000000 in
theorem specWord (s : List UInt8) (y mo d h mi se week : Int) (two bad : Bool) (l : List (List UInt8)) (hl : l.length ≤ 1000) (hs : s.length ≤ 1000000) : SpecE Try.prog 101 [.cells 10 false rz [.agg [.str s, .int .i64 y, .int .i64 mo, .int .i64 d, .int .i64 h, .int .i64 mi, .int .i64 se, .int .i64 week, .bool two, .bool bad]]] [.ptr 0 0 0 1, enc_strs l] [.cells 10 false rz [.agg [.str (wdS l s), .int .i64 y, .int .i64 mo, .int .i64 d, .int .i64 h, .int .i64 mi, .int .i64 se, .int .i64 week, .bool two, .bool (bad || wdB l s)]]] (.int .i64 (wdN l s)) := by
  refine specFE (C := T_specWord) (wr := false) (D := fun _ => []) (U := fun _ => none) (E := [.cells 10 false rz [.agg [.str s, .int .i64 y, .int .i64 mo, .int .i64 d, .int .i64 h, .int .i64 mi, .int .i64 se, .int .i64 week, .bool two, .bool bad]]]) (E' := [.cells 10 false rz [.agg [.str (wdS l s), .int .i64 y, .int .i64 mo, .int .i64 d, .int .i64 h, .int .i64 mi, .int .i64 se, .int .i64 week, .bool two, .bool (bad || wdB l s)]]]) (res := [.int .i64 (wdN l s)]) [] Try.Ty.mixed T_specWord_ok Try.func101 (nE := 1) (nA := 2) (by decide +kernel) rfl rfl ?_
  simp only [Try.f101, bodyOf, rlOf]
  rw [W_V]
  simp (config := {maxSteps := 2000000}) only [T_specWord, Go.Proofs.Try.Lib.tb_specHasPrefix, go_sem, reduceIte, Nat.reduceEqDiff, Nat.reduceAdd, Nat.reduceMul, Nat.reduceDiv, Nat.reduceMod, Nat.reduceSub, Nat.reduceBEq, Nat.reduceLT, Nat.reduceLeDiff, reduceCtorEq, Int.reduceNeg, Int.reduceEq, String.reduceEq, Int.reduceLT, Int.reduceLE, Int.reduceToNat, Int.reduceAdd, Int.reduceMul, Int.reduceSub, rz]
  (try simp (config := {maxSteps := 2000000}) only [gimp, impB, isT, go_sem, reduceIte, Nat.reduceEqDiff, Nat.reduceAdd, Nat.reduceMul, Nat.reduceDiv, Nat.reduceMod, Nat.reduceSub, Nat.reduceBEq, Nat.reduceLT, Nat.reduceLeDiff, reduceCtorEq, Int.reduceNeg, Int.reduceEq, String.reduceEq, Int.reduceLT, Int.reduceLE, Int.reduceToNat, Int.reduceAdd, Int.reduceMul, Int.reduceSub])
  refine VL_inv (X := Nat) (fun k => ⟨[(0, .ptr 0 0 0 1), (7, enc_strs l), (8, .int .i64 l.length), (9, .int .i64 k)], [(0, .cells 10 false rz [.agg [.str s, .int .i64 y, .int .i64 mo, .int .i64 d, .int .i64 h, .int .i64 mi, .int .i64 se, .int .i64 week, .bool two, .bool bad]])]⟩) (fun k => k ≤ l.length ∧ (l.take k).any (fun w => Lib.hasPrefix s w) = false) (fun k => l.length - k) 0 ?_ ?_ ?_
  · simp only [rz, go_sem, go_sem, reduceIte, Nat.reduceEqDiff, Nat.reduceAdd, Nat.reduceMul, Nat.reduceDiv, Nat.reduceMod, Nat.reduceSub, Nat.reduceBEq, Nat.reduceLT, Nat.reduceLeDiff, reduceCtorEq, Int.reduceNeg, Int.reduceEq, String.reduceEq, Int.reduceLT, Int.reduceLE, Int.reduceToNat, Int.reduceAdd, Int.reduceMul, Int.reduceSub]
    try rfl
  · exact ⟨Nat.zero_le _, by simp⟩
  rintro k ⟨hk, hn⟩
  simp (config := {maxSteps := 2000000}) only [T_specWord, Go.Proofs.Try.Lib.tb_specHasPrefix, go_sem, reduceIte, Nat.reduceEqDiff, Nat.reduceAdd, Nat.reduceMul, Nat.reduceDiv, Nat.reduceMod, Nat.reduceSub, Nat.reduceBEq, Nat.reduceLT, Nat.reduceLeDiff, reduceCtorEq, Int.reduceNeg, Int.reduceEq, String.reduceEq, Int.reduceLT, Int.reduceLE, Int.reduceToNat, Int.reduceAdd, Int.reduceMul, Int.reduceSub, rz]
  (try simp (config := {maxSteps := 2000000}) only [gimp, impB, isT, go_sem, reduceIte, Nat.reduceEqDiff, Nat.reduceAdd, Nat.reduceMul, Nat.reduceDiv, Nat.reduceMod, Nat.reduceSub, Nat.reduceBEq, Nat.reduceLT, Nat.reduceLeDiff, reduceCtorEq, Int.reduceNeg, Int.reduceEq, String.reduceEq, Int.reduceLT, Int.reduceLE, Int.reduceToNat, Int.reduceAdd, Int.reduceMul, Int.reduceSub])
  have hout := fun h : k < l.length => any_take_succ (p := fun w => Lib.hasPrefix s w) (l := l) [] h hn
  refine ⟨fun hlt => ⟨by omega, fun hp => ?_, fun hp => ⟨by omega, k + 1, by omega, ⟨by omega, ?_⟩, by omega⟩⟩, fun hge => ?_⟩
  · obtain ⟨h1, h2⟩ := word_hit (by omega) hn hp
    have hl2 := prefix_len hp
    have eS : wdS l s = s.drop (l.getD k []).length := by rw [wdS, if_pos h1, h2]
    have eB : wdB l s = false := by rw [wdB, h1]; rfl
    have eN : wdN l s = (k : Int) := by rw [wdN, if_pos h1, h2]
    rw [eS, eB, eN]
    refine ⟨⟨by omega, by omega⟩, ?_⟩
    simp
  · rw [hout (by omega)]; exact hp
  · rw [List.take_of_length_le (by omega)] at hn
    have h1 : wHit l s = false := hn
    have eS : wdS l s = s := by rw [wdS, h1]; rfl
    have eB : wdB l s = true := by rw [wdB, h1]; rfl
    have eN : wdN l s = 0 := by rw [wdN, h1]; rfl
    rw [eS, eB, eN]
    simp
def tb_specWord : List Blk → List AV → Option (List Blk × AV × Prop)
  | [.cells 10 false z [.agg [.str s, .int .i64 y, .int .i64 mo, .int .i64 d, .int .i64 h, .int .i64 mi, .int .i64 se, .int .i64 week, .bool two, .bool bad]]], [.ptr 0 0 0 1, a1] => some ([.cells 10 false rz [.agg [.str (wdS (dec_strs a1) s), .int .i64 y, .int .i64 mo, .int .i64 d, .int .i64 h, .int .i64 mi, .int .i64 se, .int .i64 week, .bool two, .bool (bad || wdB (dec_strs a1) s)]]], .int .i64 (wdN (dec_strs a1) s), (z = rz) ∧ ((dec_strs a1).length ≤ 1000) ∧ (s.length ≤ 1000000) ∧ argOK a1 (enc_strs (dec_strs a1)))
  | _, _ => none
theorem tb_specWord_ok : ∀ E args E' res p, tb_specWord E args = some (E', res, p) → p → SpecE Try.prog 101 E args E' res := by
  intro E args E' res p h hp
  unfold tb_specWord at h
  split at h
  · simp only [Option.some.injEq, Prod.mk.injEq] at h
    obtain ⟨rfl, rfl, rfl⟩ := h
    obtain ⟨rfl, hp⟩ := hp
    exact SpecE.args (specWord _ _ _ _ _ _ _ _ _ _ _ hp.1 hp.2.1) (.cons (argOK.refl _) (.cons hp.2.2 .nil))
  · cases h

def T_specNum : Tbl := fun g E args => (addT nilT 95 Go.Proofs.Try.Dig.tb_specDec) g E args
theorem T_specNum_ok : TblOK Try.prog T_specNum := (addT_ok nilT_ok (by decide +kernel) Go.Proofs.Try.Dig.tb_specDec_ok)
set_option maxRecDepth 100000 in
set_option maxHeartbeats 4000000 in
theorem specNum (s : List UInt8) (y mo d h mi se week : Int) (two bad : Bool) (w : Int) (hw : 0 ≤ w ∧ w ≤ 1000) (hs : s.length ≤ 1000000) : SpecE Try.prog 102 [.cells 10 false rz [.agg [.str s, .int .i64 y, .int .i64 mo, .int .i64 d, .int .i64 h, .int .i64 mi, .int .i64 se, .int .i64 week, .bool two, .bool bad]]] [.ptr 0 0 0 1, .int .i64 w] [.cells 10 false rz [.agg [.str (nmS w.toNat s), .int .i64 y, .int .i64 mo, .int .i64 d, .int .i64 h, .int .i64 mi, .int .i64 se, .int .i64 week, .bool two, .bool (bad || nmB w.toNat s)]]] (.int .i64 (nmN w.toNat s)) := by
  refine specFE (C := T_specNum) (wr := false) (D := fun _ => []) (U := fun _ => none) (E := [.cells 10 false rz [.agg [.str s, .int .i64 y, .int .i64 mo, .int .i64 d, .int .i64 h, .int .i64 mi, .int .i64 se, .int .i64 week, .bool two, .bool bad]]]) (E' := [.cells 10 false rz [.agg [.str (nmS w.toNat s), .int .i64 y, .int .i64 mo, .int .i64 d, .int .i64 h, .int .i64 mi, .int .i64 se, .int .i64 week, .bool two, .bool (bad || nmB w.toNat s)]]]) (res := [.int .i64 (nmN w.toNat s)]) [] Try.Ty.mixed T_specNum_ok Try.func102 (nE := 1) (nA := 2) (by decide +kernel) rfl rfl ?_
  simp only [Try.f102, bodyOf, rlOf]
  rw [W_V]
  simp (config := {maxSteps := 2000000}) only [T_specNum, Go.Proofs.Try.Dig.tb_specDec, go_sem, reduceIte, Nat.reduceEqDiff, Nat.reduceAdd, Nat.reduceMul, Nat.reduceDiv, Nat.reduceMod, Nat.reduceSub, Nat.reduceBEq, Nat.reduceLT, Nat.reduceLeDiff, reduceCtorEq, Int.reduceNeg, Int.reduceEq, String.reduceEq, Int.reduceLT, Int.reduceLE, Int.reduceToNat, Int.reduceAdd, Int.reduceMul, Int.reduceSub, rz]
  (try simp (config := {maxSteps := 2000000}) only [gimp, impB, isT, go_sem, reduceIte, Nat.reduceEqDiff, Nat.reduceAdd, Nat.reduceMul, Nat.reduceDiv, Nat.reduceMod, Nat.reduceSub, Nat.reduceBEq, Nat.reduceLT, Nat.reduceLeDiff, reduceCtorEq, Int.reduceNeg, Int.reduceEq, String.reduceEq, Int.reduceLT, Int.reduceLE, Int.reduceToNat, Int.reduceAdd, Int.reduceMul, Int.reduceSub])
  obtain ⟨n, rfl⟩ : ∃ n : Nat, w = n := ⟨w.toNat, by omega⟩
  simp only [Int.toNat_natCast]
  by_cases hlt : s.length < n
  · have eS : nmS n s = s := by rw [nmS, if_pos hlt]
    have eB : nmB n s = true := by rw [nmB, decide_eq_true hlt]; rfl
    have eN : nmN n s = 0 := by rw [nmN, if_pos hlt]
    rw [eS, eB, eN]
    refine ⟨fun _ => by simp, fun h => by omega⟩
  · have eS : nmS n s = s.drop n := by rw [nmS, if_neg hlt]
    have eB : nmB n s = !decide (numErr 10 9999 (s.take n) = 0) := by rw [nmB, decide_eq_false hlt]; rfl
    have eN : nmN n s = numVal 10 9999 (s.take n) := by rw [nmN, if_neg hlt]
    rw [eS, eB, eN]
    refine ⟨fun h => by omega, fun _ => ⟨by omega, by omega, rfl, rfl, rfl⟩⟩
def tb_specNum : List Blk → List AV → Option (List Blk × AV × Prop)
  | [.cells 10 false z [.agg [.str s, .int .i64 y, .int .i64 mo, .int .i64 d, .int .i64 h, .int .i64 mi, .int .i64 se, .int .i64 week, .bool two, .bool bad]]], [.ptr 0 0 0 1, .int .i64 w] => some ([.cells 10 false rz [.agg [.str (nmS w.toNat s), .int .i64 y, .int .i64 mo, .int .i64 d, .int .i64 h, .int .i64 mi, .int .i64 se, .int .i64 week, .bool two, .bool (bad || nmB w.toNat s)]]], .int .i64 (nmN w.toNat s), (z = rz) ∧ (0 ≤ w ∧ w ≤ 1000) ∧ (s.length ≤ 1000000))
  | _, _ => none
theorem tb_specNum_ok : ∀ E args E' res p, tb_specNum E args = some (E', res, p) → p → SpecE Try.prog 102 E args E' res := by
  intro E args E' res p h hp
  unfold tb_specNum at h
  split at h
  · simp only [Option.some.injEq, Prod.mk.injEq] at h
    obtain ⟨rfl, rfl, rfl⟩ := h
    obtain ⟨rfl, hp⟩ := hp
    exact (specNum _ _ _ _ _ _ _ _ _ _ _ hp.1 hp.2)
  · cases h

end Go.Proofs.Try.Hdt
