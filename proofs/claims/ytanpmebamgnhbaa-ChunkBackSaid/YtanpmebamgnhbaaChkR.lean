/- chunk: the walks of the document's answer, and of the statements. No condition beyond those that a machine's numbers bring. -/
import Derived.Test.YtanpmebamgnhbaaChk
import Derived.Test.YtanpmebamgnhbaaParR
set_option linter.unusedVariables false
set_option linter.unusedSimpArgs false
namespace Go.Proofs.Try.ChkR
open Go Go.Abs Go.Proofs Go.Mdl

def T_specHexTextR : Tbl := fun g E args => (addT nilT 249 Go.Proofs.Try.Dig.tb_specDigitsR) g E args
theorem T_specHexTextR_ok : TblOK Try.prog T_specHexTextR := (addT_ok nilT_ok (by decide +kernel) Go.Proofs.Try.Dig.tb_specDigitsR_ok)
set_option maxRecDepth 100000 in
set_option maxHeartbeats 4000000 in
theorem specHexTextR (n : Int) (hn : inR .i64 n) : SpecE Try.prog 174 [] [.int .i64 n] [] (.str (hexS n)) := by
  refine specF0 (C := T_specHexTextR) (wr := false) (D := fun _ => []) (U := fun _ => none) (res := [.str (hexS n)]) Try.Ty.mixed T_specHexTextR_ok Try.func174 (nA := 1) (by decide +kernel) rfl (fun _ => rfl) ?_
  simp only [Try.f174, bodyOf, rlOf]
  rw [W_V]
  simp (config := {maxSteps := 2000000}) only [T_specHexTextR, Go.Proofs.Try.Dig.tb_specDigitsR, go_sem, go_sem, reduceIte, Nat.reduceEqDiff, Nat.reduceAdd, Nat.reduceMul, Nat.reduceSub, Nat.reduceBEq, Nat.reduceLT, Nat.reduceLeDiff, reduceCtorEq, Int.reduceNeg, Int.reduceEq, String.reduceEq, Int.reduceLT, Int.reduceLE, Int.reduceToNat, Int.reduceAdd, Int.reduceMul, Int.reduceSub, Try.Ty.g1, Try.underlying1, Try.underlying2, Try.Ty.s2, Try.Ty.b2, Try.Ty.a2, Try.Ty.z2, Try.underlying3, Try.Ty.s3, Try.Ty.b3, Try.Ty.a3, Try.Ty.z3, Try.underlying4, Try.Ty.s4, Try.Ty.b4, Try.Ty.a4, Try.Ty.z4, Try.underlying9, Try.Ty.s9, Try.Ty.b9, Try.Ty.a9, Try.Ty.z9, Try.Ty.g16, Try.underlying16, Try.Ty.s16, Try.Ty.b16, Try.Ty.a16, Try.Ty.z16, Try.Ty.g55, Try.underlying55, Try.Ty.g72, Try.underlying72, Try.underlying73, Try.Ty.s73, Try.Ty.b73, Try.Ty.a73, Try.Ty.g73, Try.Ty.h73, Try.Ty.z73, Try.underlying146, Try.Ty.s146, Try.Ty.b146, Try.Ty.a146, Try.Ty.z146, Try.Ty.g219, Try.underlying219, Try.Ty.g249, Try.underlying249, Try.Ty.s249, Try.Ty.b249, Try.Ty.a249, Try.underlying269, Try.Ty.s269, Try.Ty.b269, Try.Ty.a269, Try.Ty.z269, Try.underlying271, Try.Ty.s271, Try.Ty.b271, Try.Ty.a271, Try.Ty.z271]
  (try simp (config := {maxSteps := 2000000}) only [gimp, impB, isT, go_sem, reduceIte, Nat.reduceEqDiff, Nat.reduceAdd, Nat.reduceMul, Nat.reduceSub, Nat.reduceBEq, Nat.reduceLT, Nat.reduceLeDiff, reduceCtorEq, Int.reduceNeg, Int.reduceEq, String.reduceEq, Int.reduceLT, Int.reduceLE, Int.reduceToNat, Int.reduceAdd, Int.reduceMul, Int.reduceSub])
  simp only [inR] at hn
  have e16 : (16 : Int).toNat = 16 := rfl
  refine ⟨fun h => by simp [hexS, h], fun h => ?_⟩
  have : ¬ n < 0 := by omega
  simp only [hexS, if_neg this]
  refine ⟨?_, ?_⟩ <;> (repeat' apply And.intro) <;> first | omega | rfl | simp
def tb_specHexTextR : List Blk → List AV → Option (List Blk × AV × Prop)
  | [], [.int .i64 n] => some ([], .str (hexS n), (inR .i64 n))
  | _, _ => none
theorem tb_specHexTextR_ok : ∀ E args E' res p, tb_specHexTextR E args = some (E', res, p) → p → SpecE Try.prog 174 E args E' res := by
  intro E args E' res p h hp
  unfold tb_specHexTextR at h
  split at h
  · simp only [Option.some.injEq, Prod.mk.injEq] at h
    obtain ⟨rfl, rfl, rfl⟩ := h
    exact (specHexTextR _ hp)
  · cases h

def T_specLineR : Tbl := fun g E args => (addT nilT 174 Go.Proofs.Try.ChkR.tb_specHexTextR) g E args
theorem T_specLineR_ok : TblOK Try.prog T_specLineR := (addT_ok nilT_ok (by decide +kernel) Go.Proofs.Try.ChkR.tb_specHexTextR_ok)
set_option maxRecDepth 100000 in
set_option maxHeartbeats 4000000 in
theorem specLineR (n : Int) (hn : inR .i64 n) : SpecE Try.prog 66 [] [.int .i64 n] [] (.str (chkLine n)) := by
  refine specF0 (C := T_specLineR) (wr := false) (D := fun _ => []) (U := fun _ => none) (res := [.str (chkLine n)]) Try.Ty.mixed T_specLineR_ok Try.func66 (nA := 1) (by decide +kernel) rfl (fun _ => rfl) ?_
  simp only [Try.f66, bodyOf, rlOf]
  rw [W_V]
  simp (config := {maxSteps := 2000000}) only [T_specLineR, Go.Proofs.Try.ChkR.tb_specHexTextR, go_sem, go_sem, reduceIte, Nat.reduceEqDiff, Nat.reduceAdd, Nat.reduceMul, Nat.reduceSub, Nat.reduceBEq, Nat.reduceLT, Nat.reduceLeDiff, reduceCtorEq, Int.reduceNeg, Int.reduceEq, String.reduceEq, Int.reduceLT, Int.reduceLE, Int.reduceToNat, Int.reduceAdd, Int.reduceMul, Int.reduceSub, Try.Ty.g1, Try.underlying1, Try.underlying2, Try.Ty.s2, Try.Ty.b2, Try.Ty.a2, Try.Ty.z2, Try.underlying3, Try.Ty.s3, Try.Ty.b3, Try.Ty.a3, Try.Ty.z3, Try.underlying4, Try.Ty.s4, Try.Ty.b4, Try.Ty.a4, Try.Ty.z4, Try.underlying9, Try.Ty.s9, Try.Ty.b9, Try.Ty.a9, Try.Ty.z9, Try.Ty.g38, Try.underlying38, Try.Ty.g39, Try.underlying39, Try.Ty.g55, Try.underlying55, Try.Ty.g174, Try.underlying174]
  (try simp (config := {maxSteps := 2000000}) only [gimp, impB, isT, go_sem, reduceIte, Nat.reduceEqDiff, Nat.reduceAdd, Nat.reduceMul, Nat.reduceSub, Nat.reduceBEq, Nat.reduceLT, Nat.reduceLeDiff, reduceCtorEq, Int.reduceNeg, Int.reduceEq, String.reduceEq, Int.reduceLT, Int.reduceLE, Int.reduceToNat, Int.reduceAdd, Int.reduceMul, Int.reduceSub])
  have hl : (hexS n).length ≤ 70 := by
    have := digs_len 16 n.natAbs
    unfold hexS; split
    · simp
    · exact this
  simp only [inR] at hn
  refine ⟨fun h => by simp [chkLine, h], fun h => ⟨hn, by omega, by simp [chkLine, Int.not_lt.2 h]⟩⟩
def tb_specLineR : List Blk → List AV → Option (List Blk × AV × Prop)
  | [], [.int .i64 n] => some ([], .str (chkLine n), (inR .i64 n))
  | _, _ => none
theorem tb_specLineR_ok : ∀ E args E' res p, tb_specLineR E args = some (E', res, p) → p → SpecE Try.prog 66 E args E' res := by
  intro E args E' res p h hp
  unfold tb_specLineR at h
  split at h
  · simp only [Option.some.injEq, Prod.mk.injEq] at h
    obtain ⟨rfl, rfl, rfl⟩ := h
    exact (specLineR _ hp)
  · cases h

def T_specSameInts : Tbl := fun g E args => nilT g E args
theorem T_specSameInts_ok : TblOK Try.prog T_specSameInts := nilT_ok
set_option maxRecDepth 100000 in
set_option maxHeartbeats 4000000 in
theorem specSameInts (a b : List Int) (h : a.length ≤ 2147483647) : SpecE Try.prog 67 [] [enc_ints a, enc_ints b] [] (.bool (decide (a = b))) := by
  refine specF0 (C := T_specSameInts) (wr := false) (D := fun _ => []) (U := fun _ => none) (res := [.bool (decide (a = b))]) Try.Ty.mixed T_specSameInts_ok Try.func67 (nA := 2) (by decide +kernel) rfl (fun _ => rfl) ?_
  simp only [Try.f67, bodyOf, rlOf]
  rw [W_V]
  simp (config := {maxSteps := 2000000}) only [T_specSameInts, go_sem, go_sem, reduceIte, Nat.reduceEqDiff, Nat.reduceAdd, Nat.reduceMul, Nat.reduceSub, Nat.reduceBEq, Nat.reduceLT, Nat.reduceLeDiff, reduceCtorEq, Int.reduceNeg, Int.reduceEq, String.reduceEq, Int.reduceLT, Int.reduceLE, Int.reduceToNat, Int.reduceAdd, Int.reduceMul, Int.reduceSub, Try.Ty.g1, Try.underlying1, Try.underlying2, Try.Ty.s2, Try.Ty.b2, Try.Ty.a2, Try.Ty.z2, Try.underlying3, Try.Ty.s3, Try.Ty.b3, Try.Ty.a3, Try.Ty.z3, Try.underlying4, Try.Ty.s4, Try.Ty.b4, Try.Ty.a4, Try.Ty.z4, Try.Ty.g56, Try.underlying56, Try.Ty.g57, Try.underlying57, Try.Ty.s57, Try.Ty.b57, Try.Ty.a57, Try.Ty.z57, Try.Ty.g96, Try.underlying96]
  (try simp (config := {maxSteps := 2000000}) only [gimp, impB, isT, go_sem, reduceIte, Nat.reduceEqDiff, Nat.reduceAdd, Nat.reduceMul, Nat.reduceSub, Nat.reduceBEq, Nat.reduceLT, Nat.reduceLeDiff, reduceCtorEq, Int.reduceNeg, Int.reduceEq, String.reduceEq, Int.reduceLT, Int.reduceLE, Int.reduceToNat, Int.reduceAdd, Int.reduceMul, Int.reduceSub])
  refine ⟨fun hne => ?_, fun heq => ?_⟩
  · symm; rw [decide_eq_false_iff_not]; rintro rfl; exact hne rfl
  have hl : a.length = b.length := by omega
  refine VL_inv (X := Nat) (fun x => ⟨[(0, enc_ints a), (1, enc_ints b), (5, .int .i64 x)], []⟩) (fun x => x ≤ a.length ∧ a.take x = b.take x) (fun x => a.length - x) 0 ?_ ?_ ?_
  · simp only [go_sem, go_sem, reduceIte, Nat.reduceEqDiff, Nat.reduceAdd, Nat.reduceMul, Nat.reduceSub, Nat.reduceBEq, Nat.reduceLT, Nat.reduceLeDiff, reduceCtorEq, Int.reduceNeg, Int.reduceEq, String.reduceEq, Int.reduceLT, Int.reduceLE, Int.reduceToNat, Int.reduceAdd, Int.reduceMul, Int.reduceSub]
    try rfl
  · exact ⟨Nat.zero_le _, by simp⟩
  rintro x ⟨hx, hn⟩
  simp (config := {maxSteps := 2000000}) only [T_specSameInts, go_sem, go_sem, reduceIte, Nat.reduceEqDiff, Nat.reduceAdd, Nat.reduceMul, Nat.reduceSub, Nat.reduceBEq, Nat.reduceLT, Nat.reduceLeDiff, reduceCtorEq, Int.reduceNeg, Int.reduceEq, String.reduceEq, Int.reduceLT, Int.reduceLE, Int.reduceToNat, Int.reduceAdd, Int.reduceMul, Int.reduceSub, Try.Ty.g1, Try.underlying1, Try.underlying2, Try.Ty.s2, Try.Ty.b2, Try.Ty.a2, Try.Ty.z2, Try.underlying3, Try.Ty.s3, Try.Ty.b3, Try.Ty.a3, Try.Ty.z3, Try.underlying4, Try.Ty.s4, Try.Ty.b4, Try.Ty.a4, Try.Ty.z4, Try.Ty.g56, Try.underlying56, Try.Ty.g57, Try.underlying57, Try.Ty.s57, Try.Ty.b57, Try.Ty.a57, Try.Ty.z57, Try.Ty.g96, Try.underlying96]
  (try simp (config := {maxSteps := 2000000}) only [gimp, impB, isT, go_sem, reduceIte, Nat.reduceEqDiff, Nat.reduceAdd, Nat.reduceMul, Nat.reduceSub, Nat.reduceBEq, Nat.reduceLT, Nat.reduceLeDiff, reduceCtorEq, Int.reduceNeg, Int.reduceEq, String.reduceEq, Int.reduceLT, Int.reduceLE, Int.reduceToNat, Int.reduceAdd, Int.reduceMul, Int.reduceSub])
  refine ⟨fun hlt => ?_, fun hge => ?_⟩
  · obtain ⟨h1, h2⟩ := same_step (a := a) (b := b) (x := x) 0 hl (by omega) hn
    refine ⟨by omega, by omega, fun he => ?_, fun e1 => ⟨by omega, x + 1, by omega, ⟨by omega, h1 e1⟩, by omega⟩⟩
    have : a ≠ b := h2 he
    simp [this]
  · have : x = a.length := by omega
    subst this
    rw [List.take_length, hl, List.take_length] at hn
    simp [hn]
def tb_specSameInts : List Blk → List AV → Option (List Blk × AV × Prop)
  | [], [a0, a1] => some ([], .bool (decide ((dec_ints a0) = (dec_ints a1))), ((dec_ints a0).length ≤ 2147483647) ∧ argOK a0 (enc_ints (dec_ints a0)) ∧ argOK a1 (enc_ints (dec_ints a1)))
  | _, _ => none
theorem tb_specSameInts_ok : ∀ E args E' res p, tb_specSameInts E args = some (E', res, p) → p → SpecE Try.prog 67 E args E' res := by
  intro E args E' res p h hp
  unfold tb_specSameInts at h
  split at h
  · simp only [Option.some.injEq, Prod.mk.injEq] at h
    obtain ⟨rfl, rfl, rfl⟩ := h
    exact SpecE.args (specSameInts _ _ hp.1) (.cons hp.2.1 (.cons hp.2.2 .nil))
  · cases h

def T_specSizesR : Tbl := fun g E args => nilT g E args
theorem T_specSizesR_ok : TblOK Try.prog T_specSizesR := nilT_ok
set_option maxRecDepth 100000 in
set_option maxHeartbeats 4000000 in
theorem specSizesR (n e : Int) (hn : inR .i64 n) (he : inR .i64 e) : SpecE Try.prog 69 [] [.int .i64 n, .int .i64 e] [] (enc_ints (chkSizes n e)) := by
  refine specF0 (C := T_specSizesR) (wr := false) (D := fun _ => []) (U := fun _ => none) (res := [enc_ints (chkSizes n e)]) Try.Ty.mixed T_specSizesR_ok Try.func69 (nA := 2) (by decide +kernel) rfl (fun _ => rfl) ?_
  simp only [Try.f69, bodyOf, rlOf]
  rw [W_V]
  simp (config := {maxSteps := 2000000}) only [T_specSizesR, go_sem, go_sem, reduceIte, Nat.reduceEqDiff, Nat.reduceAdd, Nat.reduceMul, Nat.reduceSub, Nat.reduceBEq, Nat.reduceLT, Nat.reduceLeDiff, reduceCtorEq, Int.reduceNeg, Int.reduceEq, String.reduceEq, Int.reduceLT, Int.reduceLE, Int.reduceToNat, Int.reduceAdd, Int.reduceMul, Int.reduceSub, Try.Ty.g1, Try.underlying1, Try.underlying2, Try.Ty.s2, Try.Ty.b2, Try.Ty.a2, Try.Ty.z2, Try.underlying3, Try.Ty.s3, Try.Ty.b3, Try.Ty.a3, Try.Ty.z3, Try.underlying4, Try.Ty.s4, Try.Ty.b4, Try.Ty.a4, Try.Ty.z4, Try.underlying5, Try.Ty.s5, Try.Ty.b5, Try.Ty.a5, Try.Ty.z5, Try.Ty.g53, Try.underlying53, Try.Ty.g57, Try.underlying57, Try.Ty.s57, Try.Ty.b57, Try.Ty.a57, Try.Ty.z57, Try.Ty.g58, Try.underlying58]
  (try simp (config := {maxSteps := 2000000}) only [gimp, impB, isT, go_sem, reduceIte, Nat.reduceEqDiff, Nat.reduceAdd, Nat.reduceMul, Nat.reduceSub, Nat.reduceBEq, Nat.reduceLT, Nat.reduceLeDiff, reduceCtorEq, Int.reduceNeg, Int.reduceEq, String.reduceEq, Int.reduceLT, Int.reduceLE, Int.reduceToNat, Int.reduceAdd, Int.reduceMul, Int.reduceSub])
  simp only [inR] at hn he
  refine ⟨fun h => ?_, fun h1 h2 h3 => ?_⟩
  · have : chkSizes n e = [] := by unfold chkSizes; rw [if_pos (by omega)]
    rw [this]; rfl
  have hc : chkSizes n e = szs e.toNat n.toNat := by unfold chkSizes; rw [if_neg (by omega)]
  refine VL_inv (X := Nat × List Int) (fun y => ⟨[(0, .int .i64 y.1), (1, .int .i64 e), (5, .ref 128 0 y.2.length y.2.length)], [(128, .cells 1 false (.int .i64 0) (y.2.map (AV.int .i64)))]⟩)
    (fun y => y.1 + y.2.length ≤ n.toNat ∧ (y.2 ++ if y.1 = 0 then [] else szs e.toNat y.1) = szs e.toNat n.toNat) (fun y => y.1) (n.toNat, []) ?_ ?_ ?_
  · simp only [go_sem, go_sem, reduceIte, Nat.reduceEqDiff, Nat.reduceAdd, Nat.reduceMul, Nat.reduceSub, Nat.reduceBEq, Nat.reduceLT, Nat.reduceLeDiff, reduceCtorEq, Int.reduceNeg, Int.reduceEq, String.reduceEq, Int.reduceLT, Int.reduceLE, Int.reduceToNat, Int.reduceAdd, Int.reduceMul, Int.reduceSub]
    try omega
  · refine ⟨by simp, ?_⟩
    simp only
    rw [if_neg (by omega)]; rfl
  rintro ⟨m, out⟩ ⟨i2, i3⟩
  simp only at i2 i3
  simp (config := {maxSteps := 2000000}) only [T_specSizesR, go_sem, go_sem, reduceIte, Nat.reduceEqDiff, Nat.reduceAdd, Nat.reduceMul, Nat.reduceSub, Nat.reduceBEq, Nat.reduceLT, Nat.reduceLeDiff, reduceCtorEq, Int.reduceNeg, Int.reduceEq, String.reduceEq, Int.reduceLT, Int.reduceLE, Int.reduceToNat, Int.reduceAdd, Int.reduceMul, Int.reduceSub, Try.Ty.g1, Try.underlying1, Try.underlying2, Try.Ty.s2, Try.Ty.b2, Try.Ty.a2, Try.Ty.z2, Try.underlying3, Try.Ty.s3, Try.Ty.b3, Try.Ty.a3, Try.Ty.z3, Try.underlying4, Try.Ty.s4, Try.Ty.b4, Try.Ty.a4, Try.Ty.z4, Try.underlying5, Try.Ty.s5, Try.Ty.b5, Try.Ty.a5, Try.Ty.z5, Try.Ty.g53, Try.underlying53, Try.Ty.g57, Try.underlying57, Try.Ty.s57, Try.Ty.b57, Try.Ty.a57, Try.Ty.z57, Try.Ty.g58, Try.underlying58]
  (try simp (config := {maxSteps := 2000000}) only [gimp, impB, isT, go_sem, reduceIte, Nat.reduceEqDiff, Nat.reduceAdd, Nat.reduceMul, Nat.reduceSub, Nat.reduceBEq, Nat.reduceLT, Nat.reduceLeDiff, reduceCtorEq, Int.reduceNeg, Int.reduceEq, String.reduceEq, Int.reduceLT, Int.reduceLE, Int.reduceToNat, Int.reduceAdd, Int.reduceMul, Int.reduceSub])
  have hmap : ∀ k : Int, List.map (AV.int .i64) out ++ [AV.int .i64 k] = List.map (AV.int .i64) (out ++ [k]) := fun k => by simp
  refine ⟨fun hlt => ?_, fun hge => ?_⟩
  · rw [if_neg (by omega)] at i3
    by_cases hle : m ≤ e.toNat
    · have hmin : min (m : Int) e = m := by omega
      rw [szs_last hle] at i3
      rw [hmin]
      refine ⟨by omega, by omega, (0, out ++ [(m : Int)]), ⟨⟨by simp only; omega, by simp⟩, hmap _⟩, ⟨by simp only [List.length_append, List.length_cons, List.length_nil]; omega, ?_⟩, by simp only; omega⟩
      simp only [if_true, List.append_nil]
      exact i3
    · have hmin : min (m : Int) e = e := by omega
      rw [szs_step (by omega) (by omega), show ((e.toNat : Nat) : Int) = e by omega] at i3
      rw [hmin]
      refine ⟨by omega, by omega, (m - e.toNat, out ++ [e]), ⟨⟨by simp only; omega, by simp⟩, hmap _⟩, ⟨by simp only [List.length_append, List.length_cons, List.length_nil]; omega, ?_⟩, by simp only; omega⟩
      simp only
      rw [if_neg (by omega), List.append_assoc]
      exact i3
  · rw [if_pos (by omega), List.append_nil] at i3
    rw [List.take_length, hc, i3]
def tb_specSizesR : List Blk → List AV → Option (List Blk × AV × Prop)
  | [], [.int .i64 n, .int .i64 e] => some ([], enc_ints (chkSizes n e), (inR .i64 n) ∧ (inR .i64 e))
  | _, _ => none
theorem tb_specSizesR_ok : ∀ E args E' res p, tb_specSizesR E args = some (E', res, p) → p → SpecE Try.prog 69 E args E' res := by
  intro E args E' res p h hp
  unfold tb_specSizesR at h
  split at h
  · simp only [Option.some.injEq, Prod.mk.injEq] at h
    obtain ⟨rfl, rfl, rfl⟩ := h
    exact (specSizesR _ _ hp.1 hp.2)
  · cases h

def T_specParseR : Tbl := fun g E args => (addT (addT (addT nilT 169 Go.Proofs.Try.Dig.tb_specValueR) 163 Go.Proofs.Try.Par.tb_specParamR) 59 Go.Proofs.Try.Dig.tb_specNumberR) g E args
theorem T_specParseR_ok : TblOK Try.prog T_specParseR := (addT_ok (addT_ok (addT_ok nilT_ok (by decide +kernel) Go.Proofs.Try.Dig.tb_specValueR_ok) (by decide +kernel) Go.Proofs.Try.Par.tb_specParamR_ok) (by decide +kernel) Go.Proofs.Try.Dig.tb_specNumberR_ok)
set_option maxRecDepth 100000 in
set_option maxHeartbeats 4000000 in
theorem specParseR (s : List UInt8) (hs : s.length ≤ 999999) : SpecE Try.prog 63 [] [.str s] [] (.tuple [.int .i64 (chkVal s), .int .i64 (chkErr s)]) := by
  refine specF0 (C := T_specParseR) (wr := false) (D := fun _ => []) (U := fun _ => none) (res := [.int .i64 (chkVal s), .int .i64 (chkErr s)]) Try.Ty.mixed T_specParseR_ok Try.func63 (nA := 1) (by decide +kernel) rfl (fun _ => rfl) ?_
  simp only [Try.f63, bodyOf, rlOf]
  rw [W_V]
  simp (config := {maxSteps := 2000000}) only [T_specParseR, Go.Proofs.Try.Dig.tb_specValueR, Go.Proofs.Try.Par.tb_specParamR, Go.Proofs.Try.Dig.tb_specNumberR, go_sem, go_sem, reduceIte, Nat.reduceEqDiff, Nat.reduceAdd, Nat.reduceMul, Nat.reduceSub, Nat.reduceBEq, Nat.reduceLT, Nat.reduceLeDiff, reduceCtorEq, Int.reduceNeg, Int.reduceEq, String.reduceEq, Int.reduceLT, Int.reduceLE, Int.reduceToNat, Int.reduceAdd, Int.reduceMul, Int.reduceSub, Try.Ty.g1, Try.underlying1, Try.underlying2, Try.Ty.s2, Try.Ty.b2, Try.Ty.a2, Try.Ty.z2, Try.underlying3, Try.Ty.s3, Try.Ty.b3, Try.Ty.a3, Try.Ty.z3, Try.underlying4, Try.Ty.s4, Try.Ty.b4, Try.Ty.a4, Try.Ty.z4, Try.underlying5, Try.Ty.s5, Try.Ty.b5, Try.Ty.a5, Try.Ty.z5, Try.underlying6, Try.Ty.s6, Try.Ty.b6, Try.Ty.a6, Try.Ty.z6, Try.underlying7, Try.Ty.s7, Try.Ty.b7, Try.Ty.a7, Try.Ty.g7, Try.Ty.h7, Try.Ty.z7, Try.underlying8, Try.Ty.s8, Try.Ty.b8, Try.Ty.a8, Try.Ty.g8, Try.Ty.h8, Try.Ty.z8, Try.underlying9, Try.Ty.s9, Try.Ty.b9, Try.Ty.a9, Try.Ty.z9, Try.Ty.g16, Try.underlying16, Try.Ty.s16, Try.Ty.b16, Try.Ty.a16, Try.Ty.z16, Try.underlying21, Try.Ty.s21, Try.Ty.b21, Try.Ty.a21, Try.Ty.z21, Try.Ty.g30, Try.underlying30, Try.Ty.g31, Try.underlying31, Try.underlying32, Try.Ty.s32, Try.Ty.b32, Try.Ty.a32, Try.Ty.z32, Try.underlying49, Try.Ty.s49, Try.Ty.b49, Try.Ty.a49, Try.Ty.g49, Try.Ty.h49, Try.Ty.z49, Try.Ty.g53, Try.underlying53, Try.Ty.g54, Try.underlying54, Try.Ty.g59, Try.underlying59, Try.Ty.g144, Try.underlying144, Try.Ty.g145, Try.underlying145, Try.Ty.g163, Try.underlying163, Try.Ty.g169, Try.underlying169, Try.underlying269, Try.Ty.s269, Try.Ty.b269, Try.Ty.a269, Try.Ty.z269, Try.underlying271, Try.Ty.s271, Try.Ty.b271, Try.Ty.a271, Try.Ty.z271]
  (try simp (config := {maxSteps := 2000000}) only [gimp, impB, isT, go_sem, reduceIte, Nat.reduceEqDiff, Nat.reduceAdd, Nat.reduceMul, Nat.reduceSub, Nat.reduceBEq, Nat.reduceLT, Nat.reduceLeDiff, reduceCtorEq, Int.reduceNeg, Int.reduceEq, String.reduceEq, Int.reduceLT, Int.reduceLE, Int.reduceToNat, Int.reduceAdd, Int.reduceMul, Int.reduceSub])
  refine ⟨fun h => by simp [chkVal, chkErr, h], fun h0 => ?_⟩
  refine VL_inv (X := Nat) (fun x => ⟨[(0, .str s), (4, .int .i64 x)], []⟩) (fun x => x ≤ s.length ∧ (s.take x).all hexC = true) (fun x => s.length - x) 0 ?_ ?_ ?_
  · simp only [go_sem, go_sem, reduceIte, Nat.reduceEqDiff, Nat.reduceAdd, Nat.reduceMul, Nat.reduceSub, Nat.reduceBEq, Nat.reduceLT, Nat.reduceLeDiff, reduceCtorEq, Int.reduceNeg, Int.reduceEq, String.reduceEq, Int.reduceLT, Int.reduceLE, Int.reduceToNat, Int.reduceAdd, Int.reduceMul, Int.reduceSub]
    try rfl
  · exact ⟨Nat.zero_le _, by simp⟩
  rintro x ⟨hx, hn⟩
  simp (config := {maxSteps := 2000000}) only [T_specParseR, Go.Proofs.Try.Dig.tb_specValueR, Go.Proofs.Try.Par.tb_specParamR, Go.Proofs.Try.Dig.tb_specNumberR, go_sem, go_sem, reduceIte, Nat.reduceEqDiff, Nat.reduceAdd, Nat.reduceMul, Nat.reduceSub, Nat.reduceBEq, Nat.reduceLT, Nat.reduceLeDiff, reduceCtorEq, Int.reduceNeg, Int.reduceEq, String.reduceEq, Int.reduceLT, Int.reduceLE, Int.reduceToNat, Int.reduceAdd, Int.reduceMul, Int.reduceSub, Try.Ty.g1, Try.underlying1, Try.underlying2, Try.Ty.s2, Try.Ty.b2, Try.Ty.a2, Try.Ty.z2, Try.underlying3, Try.Ty.s3, Try.Ty.b3, Try.Ty.a3, Try.Ty.z3, Try.underlying4, Try.Ty.s4, Try.Ty.b4, Try.Ty.a4, Try.Ty.z4, Try.underlying5, Try.Ty.s5, Try.Ty.b5, Try.Ty.a5, Try.Ty.z5, Try.underlying6, Try.Ty.s6, Try.Ty.b6, Try.Ty.a6, Try.Ty.z6, Try.underlying7, Try.Ty.s7, Try.Ty.b7, Try.Ty.a7, Try.Ty.g7, Try.Ty.h7, Try.Ty.z7, Try.underlying8, Try.Ty.s8, Try.Ty.b8, Try.Ty.a8, Try.Ty.g8, Try.Ty.h8, Try.Ty.z8, Try.underlying9, Try.Ty.s9, Try.Ty.b9, Try.Ty.a9, Try.Ty.z9, Try.Ty.g16, Try.underlying16, Try.Ty.s16, Try.Ty.b16, Try.Ty.a16, Try.Ty.z16, Try.underlying21, Try.Ty.s21, Try.Ty.b21, Try.Ty.a21, Try.Ty.z21, Try.Ty.g30, Try.underlying30, Try.Ty.g31, Try.underlying31, Try.underlying32, Try.Ty.s32, Try.Ty.b32, Try.Ty.a32, Try.Ty.z32, Try.underlying49, Try.Ty.s49, Try.Ty.b49, Try.Ty.a49, Try.Ty.g49, Try.Ty.h49, Try.Ty.z49, Try.Ty.g53, Try.underlying53, Try.Ty.g54, Try.underlying54, Try.Ty.g59, Try.underlying59, Try.Ty.g144, Try.underlying144, Try.Ty.g145, Try.underlying145, Try.Ty.g163, Try.underlying163, Try.Ty.g169, Try.underlying169, Try.underlying269, Try.Ty.s269, Try.Ty.b269, Try.Ty.a269, Try.Ty.z269, Try.underlying271, Try.Ty.s271, Try.Ty.b271, Try.Ty.a271, Try.Ty.z271]
  (try simp (config := {maxSteps := 2000000}) only [gimp, impB, isT, go_sem, reduceIte, Nat.reduceEqDiff, Nat.reduceAdd, Nat.reduceMul, Nat.reduceSub, Nat.reduceBEq, Nat.reduceLT, Nat.reduceLeDiff, reduceCtorEq, Int.reduceNeg, Int.reduceEq, String.reduceEq, Int.reduceLT, Int.reduceLE, Int.reduceToNat, Int.reduceAdd, Int.reduceMul, Int.reduceSub])
  refine ⟨fun h => by omega, fun hlt hd => ⟨by omega, x + 1, by omega, ⟨by omega, ?_⟩, by omega⟩, fun hend => ⟨by omega, ?_⟩⟩
  · rw [take_succ_getD 0 (by omega), List.all_append, hn, Bool.true_and]
    have := (refDig_lt (.inr rfl) _).1 hd
    simpa [hexC] using this
  have hxe : x = spanL hexC s := by
    refine span_exit hx hn (fun hlt => ?_)
    have hlt' : decide ((x : Int) < (s.length : Int)) = true := by rw [decide_eq_true_eq]; omega
    rw [hlt', Bool.true_and, decide_eq_false_iff_not] at hend
    rw [← Bool.not_eq_true]
    exact fun h => hend ((refDig_lt (.inr rfl) _).2 h)
  have hr : s.drop x = chkRest s := by rw [chkRest, ← hxe]
  have hsz : s.take x = chkSize s := by rw [chkSize, ← hxe]
  refine VL_inv (X := List UInt8) (fun y => ⟨[(0, .str s), (4, .int .i64 x), (5, .str y)], []⟩) (fun y => y.length ≤ s.length ∧ chkExt y = chkExt (chkRest s)) (fun y => y.length) (chkRest s) ?_ ?_ ?_
  · simp only [hr, go_sem, go_sem, reduceIte, Nat.reduceEqDiff, Nat.reduceAdd, Nat.reduceMul, Nat.reduceSub, Nat.reduceBEq, Nat.reduceLT, Nat.reduceLeDiff, reduceCtorEq, Int.reduceNeg, Int.reduceEq, String.reduceEq, Int.reduceLT, Int.reduceLE, Int.reduceToNat, Int.reduceAdd, Int.reduceMul, Int.reduceSub]
    try rfl
  · exact ⟨chkRest_len s, rfl⟩
  rintro y ⟨y1, y2⟩
  simp (config := {maxSteps := 2000000}) only [T_specParseR, Go.Proofs.Try.Dig.tb_specValueR, Go.Proofs.Try.Par.tb_specParamR, Go.Proofs.Try.Dig.tb_specNumberR, go_sem, go_sem, reduceIte, Nat.reduceEqDiff, Nat.reduceAdd, Nat.reduceMul, Nat.reduceSub, Nat.reduceBEq, Nat.reduceLT, Nat.reduceLeDiff, reduceCtorEq, Int.reduceNeg, Int.reduceEq, String.reduceEq, Int.reduceLT, Int.reduceLE, Int.reduceToNat, Int.reduceAdd, Int.reduceMul, Int.reduceSub, Try.Ty.g1, Try.underlying1, Try.underlying2, Try.Ty.s2, Try.Ty.b2, Try.Ty.a2, Try.Ty.z2, Try.underlying3, Try.Ty.s3, Try.Ty.b3, Try.Ty.a3, Try.Ty.z3, Try.underlying4, Try.Ty.s4, Try.Ty.b4, Try.Ty.a4, Try.Ty.z4, Try.underlying5, Try.Ty.s5, Try.Ty.b5, Try.Ty.a5, Try.Ty.z5, Try.underlying6, Try.Ty.s6, Try.Ty.b6, Try.Ty.a6, Try.Ty.z6, Try.underlying7, Try.Ty.s7, Try.Ty.b7, Try.Ty.a7, Try.Ty.g7, Try.Ty.h7, Try.Ty.z7, Try.underlying8, Try.Ty.s8, Try.Ty.b8, Try.Ty.a8, Try.Ty.g8, Try.Ty.h8, Try.Ty.z8, Try.underlying9, Try.Ty.s9, Try.Ty.b9, Try.Ty.a9, Try.Ty.z9, Try.Ty.g16, Try.underlying16, Try.Ty.s16, Try.Ty.b16, Try.Ty.a16, Try.Ty.z16, Try.underlying21, Try.Ty.s21, Try.Ty.b21, Try.Ty.a21, Try.Ty.z21, Try.Ty.g30, Try.underlying30, Try.Ty.g31, Try.underlying31, Try.underlying32, Try.Ty.s32, Try.Ty.b32, Try.Ty.a32, Try.Ty.z32, Try.underlying49, Try.Ty.s49, Try.Ty.b49, Try.Ty.a49, Try.Ty.g49, Try.Ty.h49, Try.Ty.z49, Try.Ty.g53, Try.underlying53, Try.Ty.g54, Try.underlying54, Try.Ty.g59, Try.underlying59, Try.Ty.g144, Try.underlying144, Try.Ty.g145, Try.underlying145, Try.Ty.g163, Try.underlying163, Try.Ty.g169, Try.underlying169, Try.underlying269, Try.Ty.s269, Try.Ty.b269, Try.Ty.a269, Try.Ty.z269, Try.underlying271, Try.Ty.s271, Try.Ty.b271, Try.Ty.a271, Try.Ty.z271]
  (try simp (config := {maxSteps := 2000000}) only [gimp, impB, isT, go_sem, reduceIte, Nat.reduceEqDiff, Nat.reduceAdd, Nat.reduceMul, Nat.reduceSub, Nat.reduceBEq, Nat.reduceLT, Nat.reduceLeDiff, reduceCtorEq, Int.reduceNeg, Int.reduceEq, String.reduceEq, Int.reduceLT, Int.reduceLE, Int.reduceToNat, Int.reduceAdd, Int.reduceMul, Int.reduceSub])
  have hbadx : x = 0 → chkBad s = true := fun h => by simp [chkBad, ← hxe, h]
  refine ⟨fun hne hpos => ⟨by omega, fun hb => ?_, fun hb => ⟨parLeft y, ?_, ⟨?_, ?_⟩, parLeft_lt hb⟩⟩, fun hend2 => ⟨fun h => ?_, fun hpos => ⟨by omega, by rw [List.length_take]; omega, ?_⟩⟩⟩
  · have hx0 : chkExt y = false := by rw [chkExt, parsGo_bad hne hb]; rfl
    have hbad : chkBad s = true := by simp [chkBad, ← y2, hx0]
    simp [chkVal, chkErr, h0, hbad]
  · have hh : parHas y = true := by
      simp only [parBad, Bool.or_eq_false_iff, Bool.not_eq_false', decide_eq_false_iff_not] at hb
      simp [parHas, hb.1, hb.2.1]
    simp [hh]
  · have := parLeft_lt hb; omega
  · rw [← y2, chkExt, chkExt, parsGo_step hne hb]
    cases parsGo (parLeft y) <;> rfl
  · have hbad := hbadx (by omega)
    simp [chkVal, chkErr, h0, hbad]
  · have hy : y = [] := by
      have hp : decide (0 < (x : Int)) = true := by rw [decide_eq_true_eq]; omega
      rw [hp, Bool.and_true] at hend2
      simpa using hend2
    have hx1 : chkExt (chkRest s) = true := by rw [← y2, hy, chkExt, parsGo_nil]; rfl
    have hx0 : ¬ x = 0 := by omega
    have hbad : chkBad s = false := by simp [chkBad, hx1, ← hxe, hx0]
    rw [hsz]
    simp [chkVal, chkErr, h0, hbad]
def tb_specParseR : List Blk → List AV → Option (List Blk × AV × Prop)
  | [], [.str s] => some ([], .tuple [.int .i64 (chkVal s), .int .i64 (chkErr s)], (s.length ≤ 999999))
  | _, _ => none
theorem tb_specParseR_ok : ∀ E args E' res p, tb_specParseR E args = some (E', res, p) → p → SpecE Try.prog 63 E args E' res := by
  intro E args E' res p h hp
  unfold tb_specParseR at h
  split at h
  · simp only [Option.some.injEq, Prod.mk.injEq] at h
    obtain ⟨rfl, rfl, rfl⟩ := h
    exact (specParseR _ hp)
  · cases h

def T_specLives : Tbl := fun g E args => (addT (addT (addT (addT nilT 62 Go.Proofs.Try.Chk.tb_specParse) 68 Go.Proofs.Try.Chk.tb_specSizes) 65 Go.Proofs.Try.Chk.tb_specLine) 67 Go.Proofs.Try.ChkR.tb_specSameInts) g E args
theorem T_specLives_ok : TblOK Try.prog T_specLives := (addT_ok (addT_ok (addT_ok (addT_ok nilT_ok (by decide +kernel) Go.Proofs.Try.Chk.tb_specParse_ok) (by decide +kernel) Go.Proofs.Try.Chk.tb_specSizes_ok) (by decide +kernel) Go.Proofs.Try.Chk.tb_specLine_ok) (by decide +kernel) Go.Proofs.Try.ChkR.tb_specSameInts_ok)
set_option maxRecDepth 100000 in
set_option maxHeartbeats 4000000 in
theorem specLives : SpecE Try.prog 64 [] [] [] (.bool true) := by
  refine specF0 (C := T_specLives) (wr := false) (D := fun _ => []) (U := fun _ => none) (res := [.bool true]) Try.Ty.mixed T_specLives_ok Try.func64 (nA := 0) (by decide +kernel) rfl (fun _ => rfl) ?_
  simp only [Try.f64, bodyOf, rlOf]
  rw [W_V]
  simp (config := {maxSteps := 2000000}) only [T_specLives, Go.Proofs.Try.Chk.tb_specParse, Go.Proofs.Try.Chk.tb_specSizes, Go.Proofs.Try.Chk.tb_specLine, Go.Proofs.Try.ChkR.tb_specSameInts, go_sem, go_sem, reduceIte, Nat.reduceEqDiff, Nat.reduceAdd, Nat.reduceMul, Nat.reduceSub, Nat.reduceBEq, Nat.reduceLT, Nat.reduceLeDiff, reduceCtorEq, Int.reduceNeg, Int.reduceEq, String.reduceEq, Int.reduceLT, Int.reduceLE, Int.reduceToNat, Int.reduceAdd, Int.reduceMul, Int.reduceSub, Try.Ty.g1, Try.underlying1, Try.underlying2, Try.Ty.s2, Try.Ty.b2, Try.Ty.a2, Try.Ty.z2, Try.underlying3, Try.Ty.s3, Try.Ty.b3, Try.Ty.a3, Try.Ty.z3, Try.underlying4, Try.Ty.s4, Try.Ty.b4, Try.Ty.a4, Try.Ty.z4, Try.underlying5, Try.Ty.s5, Try.Ty.b5, Try.Ty.a5, Try.Ty.z5, Try.underlying6, Try.Ty.s6, Try.Ty.b6, Try.Ty.a6, Try.Ty.z6, Try.underlying7, Try.Ty.s7, Try.Ty.b7, Try.Ty.a7, Try.Ty.g7, Try.Ty.h7, Try.Ty.z7, Try.underlying9, Try.Ty.s9, Try.Ty.b9, Try.Ty.a9, Try.Ty.z9, Try.underlying12, Try.Ty.s12, Try.Ty.b12, Try.Ty.a12, Try.Ty.z12, Try.underlying13, Try.Ty.s13, Try.Ty.b13, Try.Ty.a13, Try.Ty.z13, Try.underlying14, Try.Ty.s14, Try.Ty.b14, Try.Ty.a14, Try.Ty.z14, Try.Ty.g15, Try.underlying15, Try.Ty.s15, Try.Ty.b15, Try.Ty.a15, Try.Ty.z15, Try.Ty.g17, Try.underlying17, Try.Ty.s17, Try.Ty.b17, Try.Ty.a17, Try.Ty.z17, Try.Ty.g26, Try.underlying26, Try.Ty.g27, Try.underlying27, Try.underlying32, Try.Ty.s32, Try.Ty.b32, Try.Ty.a32, Try.Ty.z32, Try.Ty.g54, Try.underlying54, Try.Ty.g55, Try.underlying55, Try.Ty.g56, Try.underlying56, Try.Ty.g57, Try.underlying57, Try.Ty.s57, Try.Ty.b57, Try.Ty.a57, Try.Ty.z57, Try.Ty.g58, Try.underlying58, Try.Ty.g62, Try.underlying62, Try.underlying65, Try.Ty.s65, Try.Ty.b65, Try.Ty.a65, Try.Ty.g65, Try.Ty.h65, Try.Ty.z65, Try.underlying67, Try.Ty.s67, Try.Ty.b67, Try.Ty.a67, Try.Ty.g67, Try.Ty.h67, Try.Ty.z67, Try.underlying68, Try.Ty.s68, Try.Ty.b68, Try.Ty.a68, Try.Ty.g68, Try.Ty.h68, Try.Ty.z68, Try.Ty.g244, Try.underlying244, Try.Ty.s244, Try.Ty.b244, Try.Ty.a244, Try.Ty.z244, Try.Ty.g255, Try.underlying255, Try.underlying256, Try.Ty.s256, Try.Ty.b256, Try.Ty.a256, Try.Ty.z256, Try.underlying268, Try.Ty.s268, Try.Ty.b268, Try.Ty.a268, Try.Ty.z268, Try.underlying272, Try.Ty.s272, Try.Ty.b272, Try.Ty.a272, Try.Ty.z272, Try.underlying273, Try.Ty.s273, Try.Ty.b273, Try.Ty.a273, Try.Ty.z273, Try.Ty.g274, Try.underlying274, Try.underlying275, Try.Ty.s275, Try.Ty.b275, Try.Ty.a275, Try.Ty.z275, Try.underlying276, Try.Ty.s276, Try.Ty.b276, Try.Ty.a276, Try.Ty.z276, Try.underlying278, Try.Ty.s278, Try.Ty.b278, Try.Ty.a278, Try.Ty.z278]
  (try simp (config := {maxSteps := 2000000}) only [gimp, impB, isT, go_sem, reduceIte, Nat.reduceEqDiff, Nat.reduceAdd, Nat.reduceMul, Nat.reduceSub, Nat.reduceBEq, Nat.reduceLT, Nat.reduceLeDiff, reduceCtorEq, Int.reduceNeg, Int.reduceEq, String.reduceEq, Int.reduceLT, Int.reduceLE, Int.reduceToNat, Int.reduceAdd, Int.reduceMul, Int.reduceSub])
  have g1 : chkExt [59, 97, 61, 98] = true := by
    rw [chkExt, parsGo_step (by decide) (by decide +kernel), show parLeft [59, 97, 61, 98] = [] by decide +kernel, parsGo_nil]; rfl
  have g2 : chkRest [49, 65, 59, 97, 61, 98] = [59, 97, 61, 98] := by decide +kernel
  have g3 : chkBad [49, 65, 59, 97, 61, 98] = false := by
    unfold chkBad; rw [g2, g1]; decide +kernel
  have e1 : chkVal [49, 65, 59, 97, 61, 98] = 26 := by
    unfold chkVal; rw [if_neg (by decide), if_neg (by rw [g3]; simp)]; decide +kernel
  have e2 : chkErr [49, 65, 59, 97, 61, 98] = 0 := by
    unfold chkErr; rw [if_neg (by decide), if_neg (by rw [g3]; simp)]; decide +kernel
  have e3 : chkSizes 7 3 = [3, 3, 1] := by
    unfold chkSizes
    rw [if_neg (by omega)]
    rw [szs_step (by decide) (by decide), szs_step (by decide) (by decide), szs_last (by decide)]; rfl
  have e4 : chkLine 255 = [102, 102, 13, 10] := by decide +kernel
  simp [e1, e2, e3, e4]
def tb_specLives : List Blk → List AV → Option (List Blk × AV × Prop)
  | [], [] => some ([], .bool true, True)
  | _, _ => none
theorem tb_specLives_ok : ∀ E args E' res p, tb_specLives E args = some (E', res, p) → p → SpecE Try.prog 64 E args E' res := by
  intro E args E' res p h hp
  unfold tb_specLives at h
  split at h
  · simp only [Option.some.injEq, Prod.mk.injEq] at h
    obtain ⟨rfl, rfl, rfl⟩ := h
    exact specLives
  · cases h

def T_specLawParses : Tbl := fun g E args => (addT (addT (addT nilT 62 Go.Proofs.Try.Chk.tb_specParse) 63 Go.Proofs.Try.ChkR.tb_specParseR) 64 Go.Proofs.Try.ChkR.tb_specLives) g E args
theorem T_specLawParses_ok : TblOK Try.prog T_specLawParses := (addT_ok (addT_ok (addT_ok nilT_ok (by decide +kernel) Go.Proofs.Try.Chk.tb_specParse_ok) (by decide +kernel) Go.Proofs.Try.ChkR.tb_specParseR_ok) (by decide +kernel) Go.Proofs.Try.ChkR.tb_specLives_ok)
set_option maxRecDepth 100000 in
set_option maxHeartbeats 4000000 in
theorem specLawParses (s : List UInt8) (hs : s.length ≤ maxLen) : SpecE Try.prog 13 [] [.str s] [] (.bool true) := by
  refine specF0 (C := T_specLawParses) (wr := false) (D := fun _ => []) (U := fun _ => none) (res := [.bool true]) Try.Ty.mixed T_specLawParses_ok Try.func13 (nA := 1) (by decide +kernel) rfl (fun _ => rfl) ?_
  simp only [Try.f13, bodyOf, rlOf]
  rw [W_V]
  simp (config := {maxSteps := 2000000}) only [T_specLawParses, Go.Proofs.Try.Chk.tb_specParse, Go.Proofs.Try.ChkR.tb_specParseR, Go.Proofs.Try.ChkR.tb_specLives, go_sem, go_sem, reduceIte, Nat.reduceEqDiff, Nat.reduceAdd, Nat.reduceMul, Nat.reduceSub, Nat.reduceBEq, Nat.reduceLT, Nat.reduceLeDiff, reduceCtorEq, Int.reduceNeg, Int.reduceEq, String.reduceEq, Int.reduceLT, Int.reduceLE, Int.reduceToNat, Int.reduceAdd, Int.reduceMul, Int.reduceSub, Try.Ty.g1, Try.underlying1, Try.underlying2, Try.Ty.s2, Try.Ty.b2, Try.Ty.a2, Try.Ty.z2, Try.underlying3, Try.Ty.s3, Try.Ty.b3, Try.Ty.a3, Try.Ty.z3, Try.underlying4, Try.Ty.s4, Try.Ty.b4, Try.Ty.a4, Try.Ty.z4, Try.underlying5, Try.Ty.s5, Try.Ty.b5, Try.Ty.a5, Try.Ty.z5, Try.underlying6, Try.Ty.s6, Try.Ty.b6, Try.Ty.a6, Try.Ty.z6, Try.underlying9, Try.Ty.s9, Try.Ty.b9, Try.Ty.a9, Try.Ty.z9, Try.underlying20, Try.Ty.s20, Try.Ty.b20, Try.Ty.a20, Try.Ty.z20, Try.underlying21, Try.Ty.s21, Try.Ty.b21, Try.Ty.a21, Try.Ty.z21, Try.Ty.g22, Try.underlying22, Try.Ty.s22, Try.Ty.b22, Try.Ty.a22, Try.Ty.z22, Try.Ty.g27, Try.underlying27, Try.Ty.g31, Try.underlying31, Try.underlying32, Try.Ty.s32, Try.Ty.b32, Try.Ty.a32, Try.Ty.z32, Try.Ty.g54, Try.underlying54, Try.Ty.g62, Try.underlying62, Try.Ty.g63, Try.underlying63, Try.Ty.g64, Try.underlying64]
  (try simp (config := {maxSteps := 2000000}) only [gimp, impB, isT, go_sem, reduceIte, Nat.reduceEqDiff, Nat.reduceAdd, Nat.reduceMul, Nat.reduceSub, Nat.reduceBEq, Nat.reduceLT, Nat.reduceLeDiff, reduceCtorEq, Int.reduceNeg, Int.reduceEq, String.reduceEq, Int.reduceLT, Int.reduceLE, Int.reduceToNat, Int.reduceAdd, Int.reduceMul, Int.reduceSub])
  rw [List.length_take]; omega
def tb_specLawParses : List Blk → List AV → Option (List Blk × AV × Prop)
  | [], [.str s] => some ([], .bool true, (s.length ≤ maxLen))
  | _, _ => none
theorem tb_specLawParses_ok : ∀ E args E' res p, tb_specLawParses E args = some (E', res, p) → p → SpecE Try.prog 13 E args E' res := by
  intro E args E' res p h hp
  unfold tb_specLawParses at h
  split at h
  · simp only [Option.some.injEq, Prod.mk.injEq] at h
    obtain ⟨rfl, rfl, rfl⟩ := h
    exact (specLawParses _ hp)
  · cases h

def T_specLawSizes : Tbl := fun g E args => (addT (addT (addT (addT (addT (addT nilT 65 Go.Proofs.Try.Chk.tb_specLine) 66 Go.Proofs.Try.ChkR.tb_specLineR) 68 Go.Proofs.Try.Chk.tb_specSizes) 69 Go.Proofs.Try.ChkR.tb_specSizesR) 67 Go.Proofs.Try.ChkR.tb_specSameInts) 64 Go.Proofs.Try.ChkR.tb_specLives) g E args
theorem T_specLawSizes_ok : TblOK Try.prog T_specLawSizes := (addT_ok (addT_ok (addT_ok (addT_ok (addT_ok (addT_ok nilT_ok (by decide +kernel) Go.Proofs.Try.Chk.tb_specLine_ok) (by decide +kernel) Go.Proofs.Try.ChkR.tb_specLineR_ok) (by decide +kernel) Go.Proofs.Try.Chk.tb_specSizes_ok) (by decide +kernel) Go.Proofs.Try.ChkR.tb_specSizesR_ok) (by decide +kernel) Go.Proofs.Try.ChkR.tb_specSameInts_ok) (by decide +kernel) Go.Proofs.Try.ChkR.tb_specLives_ok)
set_option maxRecDepth 100000 in
set_option maxHeartbeats 4000000 in
theorem specLawSizes (n e : Int) (hn : inR .i64 n) (he : inR .i64 e) : SpecE Try.prog 14 [] [.int .i64 n, .int .i64 e] [] (.bool true) := by
  refine specF0 (C := T_specLawSizes) (wr := false) (D := fun _ => []) (U := fun _ => none) (res := [.bool true]) Try.Ty.mixed T_specLawSizes_ok Try.func14 (nA := 2) (by decide +kernel) rfl (fun _ => rfl) ?_
  simp only [Try.f14, bodyOf, rlOf]
  rw [W_V]
  simp (config := {maxSteps := 2000000}) only [T_specLawSizes, Go.Proofs.Try.Chk.tb_specLine, Go.Proofs.Try.ChkR.tb_specLineR, Go.Proofs.Try.Chk.tb_specSizes, Go.Proofs.Try.ChkR.tb_specSizesR, Go.Proofs.Try.ChkR.tb_specSameInts, Go.Proofs.Try.ChkR.tb_specLives, go_sem, go_sem, reduceIte, Nat.reduceEqDiff, Nat.reduceAdd, Nat.reduceMul, Nat.reduceSub, Nat.reduceBEq, Nat.reduceLT, Nat.reduceLeDiff, reduceCtorEq, Int.reduceNeg, Int.reduceEq, String.reduceEq, Int.reduceLT, Int.reduceLE, Int.reduceToNat, Int.reduceAdd, Int.reduceMul, Int.reduceSub, Try.Ty.g1, Try.underlying1, Try.underlying2, Try.Ty.s2, Try.Ty.b2, Try.Ty.a2, Try.Ty.z2, Try.underlying3, Try.Ty.s3, Try.Ty.b3, Try.Ty.a3, Try.Ty.z3, Try.underlying4, Try.Ty.s4, Try.Ty.b4, Try.Ty.a4, Try.Ty.z4, Try.underlying9, Try.Ty.s9, Try.Ty.b9, Try.Ty.a9, Try.Ty.z9, Try.Ty.g27, Try.underlying27, Try.Ty.g28, Try.underlying28, Try.Ty.g30, Try.underlying30, Try.Ty.g31, Try.underlying31, Try.Ty.g55, Try.underlying55, Try.Ty.g56, Try.underlying56, Try.Ty.g57, Try.underlying57, Try.Ty.s57, Try.Ty.b57, Try.Ty.a57, Try.Ty.z57, Try.Ty.g58, Try.underlying58, Try.Ty.g59, Try.underlying59, Try.Ty.g64, Try.underlying64, Try.underlying65, Try.Ty.s65, Try.Ty.b65, Try.Ty.a65, Try.Ty.g65, Try.Ty.h65, Try.Ty.z65, Try.underlying66, Try.Ty.s66, Try.Ty.b66, Try.Ty.a66, Try.Ty.g66, Try.Ty.h66, Try.Ty.z66, Try.underlying67, Try.Ty.s67, Try.Ty.b67, Try.Ty.a67, Try.Ty.g67, Try.Ty.h67, Try.Ty.z67, Try.underlying68, Try.Ty.s68, Try.Ty.b68, Try.Ty.a68, Try.Ty.g68, Try.Ty.h68, Try.Ty.z68]
  (try simp (config := {maxSteps := 2000000}) only [gimp, impB, isT, go_sem, reduceIte, Nat.reduceEqDiff, Nat.reduceAdd, Nat.reduceMul, Nat.reduceSub, Nat.reduceBEq, Nat.reduceLT, Nat.reduceLeDiff, reduceCtorEq, Int.reduceNeg, Int.reduceEq, String.reduceEq, Int.reduceLT, Int.reduceLE, Int.reduceToNat, Int.reduceAdd, Int.reduceMul, Int.reduceSub])
  simp only [inR] at hn he
  have := chkSizes_len n e
  exact fun _ => ⟨hn, hn, ⟨hn, he⟩, ⟨hn, he⟩, by omega⟩
def tb_specLawSizes : List Blk → List AV → Option (List Blk × AV × Prop)
  | [], [.int .i64 n, .int .i64 e] => some ([], .bool true, (inR .i64 n) ∧ (inR .i64 e))
  | _, _ => none
theorem tb_specLawSizes_ok : ∀ E args E' res p, tb_specLawSizes E args = some (E', res, p) → p → SpecE Try.prog 14 E args E' res := by
  intro E args E' res p h hp
  unfold tb_specLawSizes at h
  split at h
  · simp only [Option.some.injEq, Prod.mk.injEq] at h
    obtain ⟨rfl, rfl, rfl⟩ := h
    exact (specLawSizes _ _ hp.1 hp.2)
  · cases h

def T_specLawBack : Tbl := fun g E args => (addT (addT (addT (addT nilT 65 Go.Proofs.Try.Chk.tb_specLine) 62 Go.Proofs.Try.Chk.tb_specParse) 68 Go.Proofs.Try.Chk.tb_specSizes) 64 Go.Proofs.Try.ChkR.tb_specLives) g E args
theorem T_specLawBack_ok : TblOK Try.prog T_specLawBack := (addT_ok (addT_ok (addT_ok (addT_ok nilT_ok (by decide +kernel) Go.Proofs.Try.Chk.tb_specLine_ok) (by decide +kernel) Go.Proofs.Try.Chk.tb_specParse_ok) (by decide +kernel) Go.Proofs.Try.Chk.tb_specSizes_ok) (by decide +kernel) Go.Proofs.Try.ChkR.tb_specLives_ok)
set_option maxRecDepth 100000 in
set_option maxHeartbeats 4000000 in
theorem specLawBack (n e : Int) (hn : inR .i64 n) (he : inR .i64 e) : SpecE Try.prog 15 [] [.int .i64 n, .int .i64 e] [] (.bool true) := by
  refine specF0 (C := T_specLawBack) (wr := false) (D := fun _ => []) (U := fun _ => none) (res := [.bool true]) Try.Ty.mixed T_specLawBack_ok Try.func15 (nA := 2) (by decide +kernel) rfl (fun _ => rfl) ?_
  simp only [Try.f15, bodyOf, rlOf]
  rw [W_V]
  simp (config := {maxSteps := 2000000}) only [T_specLawBack, Go.Proofs.Try.Chk.tb_specLine, Go.Proofs.Try.Chk.tb_specParse, Go.Proofs.Try.Chk.tb_specSizes, Go.Proofs.Try.ChkR.tb_specLives, go_sem, go_sem, reduceIte, Nat.reduceEqDiff, Nat.reduceAdd, Nat.reduceMul, Nat.reduceSub, Nat.reduceBEq, Nat.reduceLT, Nat.reduceLeDiff, reduceCtorEq, Int.reduceNeg, Int.reduceEq, String.reduceEq, Int.reduceLT, Int.reduceLE, Int.reduceToNat, Int.reduceAdd, Int.reduceMul, Int.reduceSub, Try.Ty.g1, Try.underlying1, Try.underlying2, Try.Ty.s2, Try.Ty.b2, Try.Ty.a2, Try.Ty.z2, Try.underlying3, Try.Ty.s3, Try.Ty.b3, Try.Ty.a3, Try.Ty.z3, Try.underlying4, Try.Ty.s4, Try.Ty.b4, Try.Ty.a4, Try.Ty.z4, Try.underlying5, Try.Ty.s5, Try.Ty.b5, Try.Ty.a5, Try.Ty.z5, Try.underlying6, Try.Ty.s6, Try.Ty.b6, Try.Ty.a6, Try.Ty.z6, Try.underlying7, Try.Ty.s7, Try.Ty.b7, Try.Ty.a7, Try.Ty.g7, Try.Ty.h7, Try.Ty.z7, Try.underlying8, Try.Ty.s8, Try.Ty.b8, Try.Ty.a8, Try.Ty.g8, Try.Ty.h8, Try.Ty.z8, Try.underlying9, Try.Ty.s9, Try.Ty.b9, Try.Ty.a9, Try.Ty.z9, Try.Ty.g27, Try.underlying27, Try.underlying32, Try.Ty.s32, Try.Ty.b32, Try.Ty.a32, Try.Ty.z32, Try.Ty.g36, Try.underlying36, Try.Ty.g38, Try.underlying38, Try.Ty.g42, Try.underlying42, Try.Ty.g44, Try.underlying44, Try.Ty.g50, Try.underlying50, Try.Ty.g54, Try.underlying54, Try.Ty.g55, Try.underlying55, Try.Ty.g57, Try.underlying57, Try.Ty.s57, Try.Ty.b57, Try.Ty.a57, Try.Ty.z57, Try.Ty.g58, Try.underlying58, Try.Ty.g59, Try.underlying59, Try.Ty.g62, Try.underlying62, Try.Ty.g64, Try.underlying64, Try.underlying65, Try.Ty.s65, Try.Ty.b65, Try.Ty.a65, Try.Ty.g65, Try.Ty.h65, Try.Ty.z65, Try.underlying68, Try.Ty.s68, Try.Ty.b68, Try.Ty.a68, Try.Ty.g68, Try.Ty.h68, Try.Ty.z68]
  (try simp (config := {maxSteps := 2000000}) only [gimp, impB, isT, go_sem, reduceIte, Nat.reduceEqDiff, Nat.reduceAdd, Nat.reduceMul, Nat.reduceSub, Nat.reduceBEq, Nat.reduceLT, Nat.reduceLeDiff, reduceCtorEq, Int.reduceNeg, Int.reduceEq, String.reduceEq, Int.reduceLT, Int.reduceLE, Int.reduceToNat, Int.reduceAdd, Int.reduceMul, Int.reduceSub])
  simp only [inR] at hn he
  intro h0 h2
  have hline : chkLine n = hexS n ++ [13, 10] := by simp [chkLine, Int.not_lt.2 h0]
  have hh : hexS n = digs 16 n.natAbs := by simp [hexS, Int.not_lt.2 h0]
  have hp := digs_pos 16 n.natAbs
  have hl := digs_len 16 n.natAbs
  obtain ⟨b1, b2⟩ := chk_line h0 h2
  have hlen : (chkLine n).length = (hexS n).length + 2 := by rw [hline]; simp
  have et : (((chkLine n).length : Int) - 2).toNat = (hexS n).length := by omega
  have ed : (chkLine n).drop (hexS n).length = [13, 10] := by rw [hline, List.drop_left' rfl]
  have ek : (chkLine n).take (hexS n).length = hexS n := by rw [hline, List.take_left' rfl]
  rw [← hh] at hp hl
  rw [et, ed, ek]
  refine ⟨by omega, by omega, by omega, fun h => ?_, fun _ _ => ⟨by omega, by omega, by omega, ⟨hn, he⟩, ?_⟩⟩
  · rcases h with h | h
    · omega
    · exact h rfl
  rw [b1, b2]
  have hsl := chkSizes_len n e
  refine VL_inv (X := Nat) (fun k => ⟨[(0, .int .i64 n), (1, .int .i64 e), (6, .int .i64 n), (7, .int .i64 0), (8, .int .i64 ((chkSizes n e).take k).sum), (42, enc_ints (chkSizes n e)), (43, .int .i64 (chkSizes n e).length), (44, .int .i64 k)], []⟩) (fun k => k ≤ (chkSizes n e).length) (fun k => (chkSizes n e).length - k) 0 ?_ ?_ ?_
  · simp only [b1, b2, List.take_zero, List.sum_nil, go_sem, go_sem, reduceIte, Nat.reduceEqDiff, Nat.reduceAdd, Nat.reduceMul, Nat.reduceSub, Nat.reduceBEq, Nat.reduceLT, Nat.reduceLeDiff, reduceCtorEq, Int.reduceNeg, Int.reduceEq, String.reduceEq, Int.reduceLT, Int.reduceLE, Int.reduceToNat, Int.reduceAdd, Int.reduceMul, Int.reduceSub]
    try rfl
  · exact Nat.zero_le _
  rintro k hk
  simp (config := {maxSteps := 2000000}) only [T_specLawBack, Go.Proofs.Try.Chk.tb_specLine, Go.Proofs.Try.Chk.tb_specParse, Go.Proofs.Try.Chk.tb_specSizes, Go.Proofs.Try.ChkR.tb_specLives, go_sem, go_sem, reduceIte, Nat.reduceEqDiff, Nat.reduceAdd, Nat.reduceMul, Nat.reduceSub, Nat.reduceBEq, Nat.reduceLT, Nat.reduceLeDiff, reduceCtorEq, Int.reduceNeg, Int.reduceEq, String.reduceEq, Int.reduceLT, Int.reduceLE, Int.reduceToNat, Int.reduceAdd, Int.reduceMul, Int.reduceSub, Try.Ty.g1, Try.underlying1, Try.underlying2, Try.Ty.s2, Try.Ty.b2, Try.Ty.a2, Try.Ty.z2, Try.underlying3, Try.Ty.s3, Try.Ty.b3, Try.Ty.a3, Try.Ty.z3, Try.underlying4, Try.Ty.s4, Try.Ty.b4, Try.Ty.a4, Try.Ty.z4, Try.underlying5, Try.Ty.s5, Try.Ty.b5, Try.Ty.a5, Try.Ty.z5, Try.underlying6, Try.Ty.s6, Try.Ty.b6, Try.Ty.a6, Try.Ty.z6, Try.underlying7, Try.Ty.s7, Try.Ty.b7, Try.Ty.a7, Try.Ty.g7, Try.Ty.h7, Try.Ty.z7, Try.underlying8, Try.Ty.s8, Try.Ty.b8, Try.Ty.a8, Try.Ty.g8, Try.Ty.h8, Try.Ty.z8, Try.underlying9, Try.Ty.s9, Try.Ty.b9, Try.Ty.a9, Try.Ty.z9, Try.Ty.g27, Try.underlying27, Try.underlying32, Try.Ty.s32, Try.Ty.b32, Try.Ty.a32, Try.Ty.z32, Try.Ty.g36, Try.underlying36, Try.Ty.g38, Try.underlying38, Try.Ty.g42, Try.underlying42, Try.Ty.g44, Try.underlying44, Try.Ty.g50, Try.underlying50, Try.Ty.g54, Try.underlying54, Try.Ty.g55, Try.underlying55, Try.Ty.g57, Try.underlying57, Try.Ty.s57, Try.Ty.b57, Try.Ty.a57, Try.Ty.z57, Try.Ty.g58, Try.underlying58, Try.Ty.g59, Try.underlying59, Try.Ty.g62, Try.underlying62, Try.Ty.g64, Try.underlying64, Try.underlying65, Try.Ty.s65, Try.Ty.b65, Try.Ty.a65, Try.Ty.g65, Try.Ty.h65, Try.Ty.z65, Try.underlying68, Try.Ty.s68, Try.Ty.b68, Try.Ty.a68, Try.Ty.g68, Try.Ty.h68, Try.Ty.z68]
  (try simp (config := {maxSteps := 2000000}) only [gimp, impB, isT, go_sem, reduceIte, Nat.reduceEqDiff, Nat.reduceAdd, Nat.reduceMul, Nat.reduceSub, Nat.reduceBEq, Nat.reduceLT, Nat.reduceLeDiff, reduceCtorEq, Int.reduceNeg, Int.reduceEq, String.reduceEq, Int.reduceLT, Int.reduceLE, Int.reduceToNat, Int.reduceAdd, Int.reduceMul, Int.reduceSub])
  have hr := chkSizes_range n e
  have hsum := chkSizes_sum (n := n) (e := e) h0 h2
  have hpos : ∀ x ∈ chkSizes n e, 1 ≤ x := fun x hx => (hr x hx).1
  have hs2 := fun h : k < (chkSizes n e).length => sum_take_succ (l := chkSizes n e) h
  have ht := sum_take hpos (k + 1)
  have hmem : k < (chkSizes n e).length → (chkSizes n e).getD k 0 ∈ chkSizes n e := fun h => List.mem_of_getElem? (getD_of_lt (s := chkSizes n e) (d := 0) h)
  have hle : (chkSizes n e).sum ≤ n := by rw [hsum]; split <;> omega
  refine ⟨fun hlt => ?_, fun hge => ?_⟩
  · have h1 := hr _ (hmem (by omega))
    have h3 := hs2 (by omega)
    exact ⟨by omega, fun h => by omega, fun _ _ => ⟨by omega, by omega, k + 1, ⟨h3.symm, by omega⟩, by omega, by omega⟩⟩
  · rw [List.take_of_length_le (by omega), hsum]
    by_cases h1 : 1 ≤ e
    · left; rw [if_pos h1]
    · right; rw [if_neg h1]; exact ⟨by omega, rfl⟩
def tb_specLawBack : List Blk → List AV → Option (List Blk × AV × Prop)
  | [], [.int .i64 n, .int .i64 e] => some ([], .bool true, (inR .i64 n) ∧ (inR .i64 e))
  | _, _ => none
theorem tb_specLawBack_ok : ∀ E args E' res p, tb_specLawBack E args = some (E', res, p) → p → SpecE Try.prog 15 E args E' res := by
  intro E args E' res p h hp
  unfold tb_specLawBack at h
  split at h
  · simp only [Option.some.injEq, Prod.mk.injEq] at h
    obtain ⟨rfl, rfl, rfl⟩ := h
    exact (specLawBack _ _ hp.1 hp.2)
  · cases h
end Go.Proofs.Try.ChkR
