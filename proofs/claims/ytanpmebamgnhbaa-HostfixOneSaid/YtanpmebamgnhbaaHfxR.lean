/- hostfix: the walks of the statements. No condition beyond those that a machine's numbers bring. -/
import Derived.Test.YtanpmebamgnhbaaHfx
set_option linter.unusedVariables false
set_option linter.unusedSimpArgs false
namespace Go.Proofs.Try.Hfx
open Go Go.Abs Go.Proofs Go.Mdl

def T_specLives : Tbl := fun g E args => (addT (addT nilT 78 Go.Proofs.Try.Hfx.tb_specFix) 82 Go.Proofs.Try.Hfx.tb_specKey) g E args
theorem T_specLives_ok : TblOK Try.prog T_specLives := (addT_ok (addT_ok nilT_ok (by decide +kernel) Go.Proofs.Try.Hfx.tb_specFix_ok) (by decide +kernel) Go.Proofs.Try.Hfx.tb_specKey_ok)
set_option maxRecDepth 100000 in
set_option maxHeartbeats 4000000 in
theorem specLives : SpecE Try.prog 77 [] [] [] (.bool true) := by
  refine specF0 (C := T_specLives) (wr := false) (D := fun _ => []) (U := fun _ => none) (res := [.bool true]) Try.Ty.mixed T_specLives_ok Try.func77 (nA := 0) (by decide +kernel) rfl (fun _ => rfl) ?_
  simp only [Try.f77, bodyOf, rlOf]
  rw [W_V]
  simp (config := {maxSteps := 2000000}) only [T_specLives, Go.Proofs.Try.Hfx.tb_specFix, Go.Proofs.Try.Hfx.tb_specKey, go_sem, reduceIte, Nat.reduceEqDiff, Nat.reduceAdd, Nat.reduceMul, Nat.reduceSub, Nat.reduceBEq, Nat.reduceLT, Nat.reduceLeDiff, reduceCtorEq, Int.reduceNeg, Int.reduceEq, String.reduceEq, Int.reduceLT, Int.reduceLE, Int.reduceToNat, Int.reduceAdd, Int.reduceMul, Int.reduceSub, dec_fld_mk]
  (try simp (config := {maxSteps := 2000000}) only [gimp, impB, isT, go_sem, reduceIte, Nat.reduceEqDiff, Nat.reduceAdd, Nat.reduceMul, Nat.reduceSub, Nat.reduceBEq, Nat.reduceLT, Nat.reduceLeDiff, reduceCtorEq, Int.reduceNeg, Int.reduceEq, String.reduceEq, Int.reduceLT, Int.reduceLE, Int.reduceToNat, Int.reduceAdd, Int.reduceMul, Int.reduceSub])
  decide +kernel
def tb_specLives : List Blk → List AV → Option (List Blk × AV × Prop)
  | [], [] => some ([], .bool true, True)
  | _, _ => none
theorem tb_specLives_ok : ∀ E args E' res p, tb_specLives E args = some (E', res, p) → p → SpecE Try.prog 77 E args E' res := by
  intro E args E' res p h hp
  unfold tb_specLives at h
  split at h
  · simp only [Option.some.injEq, Prod.mk.injEq] at h
    obtain ⟨rfl, rfl, rfl⟩ := h
    exact specLives
  · cases h

def T_specLawFixes : Tbl := fun g E args => (addT (addT (addT (addT (addT (addT (addT (addT (addT nilT 70 Go.Proofs.Try.HdrR.tb_specFew) 78 Go.Proofs.Try.Hfx.tb_specFix) 79 Go.Proofs.Try.Hfx.tb_specFixR) 80 Go.Proofs.Try.Hfx.tb_specPlace) 81 Go.Proofs.Try.Hfx.tb_specPlaceR) 82 Go.Proofs.Try.Hfx.tb_specKey) 83 Go.Proofs.Try.Hfx.tb_specKeyR) 74 Go.Proofs.Try.HdrR.tb_specSameF) 77 Go.Proofs.Try.Hfx.tb_specLives) g E args
theorem T_specLawFixes_ok : TblOK Try.prog T_specLawFixes := (addT_ok (addT_ok (addT_ok (addT_ok (addT_ok (addT_ok (addT_ok (addT_ok (addT_ok nilT_ok (by decide +kernel) Go.Proofs.Try.HdrR.tb_specFew_ok) (by decide +kernel) Go.Proofs.Try.Hfx.tb_specFix_ok) (by decide +kernel) Go.Proofs.Try.Hfx.tb_specFixR_ok) (by decide +kernel) Go.Proofs.Try.Hfx.tb_specPlace_ok) (by decide +kernel) Go.Proofs.Try.Hfx.tb_specPlaceR_ok) (by decide +kernel) Go.Proofs.Try.Hfx.tb_specKey_ok) (by decide +kernel) Go.Proofs.Try.Hfx.tb_specKeyR_ok) (by decide +kernel) Go.Proofs.Try.HdrR.tb_specSameF_ok) (by decide +kernel) Go.Proofs.Try.Hfx.tb_specLives_ok)
set_option maxRecDepth 100000 in
set_option maxHeartbeats 4000000 in
theorem specLawFixes (l : List Fld) (fo : Int) (a p : List UInt8) (au : List UInt8) (ver : Int) (hl : l.length ≤ maxLen) : SpecE Try.prog 17 [] [enc_flds l, .agg [.int .i64 fo, .str a, .str p], .agg [.str au, .int .i64 ver]] [] (.bool true) := by
  refine specF0 (C := T_specLawFixes) (wr := false) (D := fun _ => []) (U := fun _ => none) (res := [.bool true]) Try.Ty.mixed T_specLawFixes_ok Try.func17 (nA := 3) (by decide +kernel) rfl (fun _ => rfl) ?_
  simp only [Try.f17, bodyOf, rlOf]
  rw [W_V]
  simp (config := {maxSteps := 2000000}) only [T_specLawFixes, Go.Proofs.Try.HdrR.tb_specFew, Go.Proofs.Try.Hfx.tb_specFix, Go.Proofs.Try.Hfx.tb_specFixR, Go.Proofs.Try.Hfx.tb_specPlace, Go.Proofs.Try.Hfx.tb_specPlaceR, Go.Proofs.Try.Hfx.tb_specKey, Go.Proofs.Try.Hfx.tb_specKeyR, Go.Proofs.Try.HdrR.tb_specSameF, Go.Proofs.Try.Hfx.tb_specLives, go_sem, reduceIte, Nat.reduceEqDiff, Nat.reduceAdd, Nat.reduceMul, Nat.reduceSub, Nat.reduceBEq, Nat.reduceLT, Nat.reduceLeDiff, reduceCtorEq, Int.reduceNeg, Int.reduceEq, String.reduceEq, Int.reduceLT, Int.reduceLE, Int.reduceToNat, Int.reduceAdd, Int.reduceMul, Int.reduceSub]
  (try simp (config := {maxSteps := 2000000}) only [gimp, impB, isT, go_sem, reduceIte, Nat.reduceEqDiff, Nat.reduceAdd, Nat.reduceMul, Nat.reduceSub, Nat.reduceBEq, Nat.reduceLT, Nat.reduceLeDiff, reduceCtorEq, Int.reduceNeg, Int.reduceEq, String.reduceEq, Int.reduceLT, Int.reduceLE, Int.reduceToNat, Int.reduceAdd, Int.reduceMul, Int.reduceSub])
  refine ⟨hl, fun hfew h1 h2 h3 => ?_⟩
  obtain ⟨f1, f2⟩ := fewF_len hfew
  have c1 : l.length ≤ 1000 := by omega
  have c3 : ∀ f ∈ l, f.1.length ≤ 1000000 := fun f h => by have := (f2 f h).1; omega
  have c4 : ∀ f ∈ l, f.2.length ≤ 1000 := fun f h => by have := (f2 f h).2; omega
  have c5 := hfFix_len l (hfPlace l fo a au) ver
  exact ⟨⟨c1, c4, by omega, by omega⟩, ⟨c1, c3, c4, by omega, by omega⟩, by omega, c1, ⟨c1, c3⟩, ⟨c1, c4, by omega, by omega⟩, c1, c3, c4, by omega, by omega⟩
def tb_specLawFixes : List Blk → List AV → Option (List Blk × AV × Prop)
  | [], [a0, .agg [.int .i64 fo, .str a, .str p], .agg [.str au, .int .i64 ver]] => some ([], .bool true, ((dec_flds a0).length ≤ maxLen) ∧ argOK a0 (enc_flds (dec_flds a0)))
  | _, _ => none
theorem tb_specLawFixes_ok : ∀ E args E' res p, tb_specLawFixes E args = some (E', res, p) → p → SpecE Try.prog 17 E args E' res := by
  intro E args E' res p h hp
  unfold tb_specLawFixes at h
  split at h
  · simp only [Option.some.injEq, Prod.mk.injEq] at h
    obtain ⟨rfl, rfl, rfl⟩ := h
    exact SpecE.args (specLawFixes _ _ _ _ _ _ hp.1) (.cons hp.2 (.cons (argOK.refl _) (.cons (argOK.refl _) .nil)))
  · cases h

def T_specLawOne : Tbl := fun g E args => (addT (addT (addT (addT (addT (addT (addT (addT (addT nilT 70 Go.Proofs.Try.HdrR.tb_specFew) 78 Go.Proofs.Try.Hfx.tb_specFix) 82 Go.Proofs.Try.Hfx.tb_specKey) 87 Go.Proofs.Try.Hdr.tb_specGet) 45 Go.Proofs.Try.Host.tb_specKey) 84 Go.Proofs.Try.Hdr.tb_specCount) 88 Go.Proofs.Try.Hdr.tb_specWithout) 74 Go.Proofs.Try.HdrR.tb_specSameF) 77 Go.Proofs.Try.Hfx.tb_specLives) g E args
theorem T_specLawOne_ok : TblOK Try.prog T_specLawOne := (addT_ok (addT_ok (addT_ok (addT_ok (addT_ok (addT_ok (addT_ok (addT_ok (addT_ok nilT_ok (by decide +kernel) Go.Proofs.Try.HdrR.tb_specFew_ok) (by decide +kernel) Go.Proofs.Try.Hfx.tb_specFix_ok) (by decide +kernel) Go.Proofs.Try.Hfx.tb_specKey_ok) (by decide +kernel) Go.Proofs.Try.Hdr.tb_specGet_ok) (by decide +kernel) Go.Proofs.Try.Host.tb_specKey_ok) (by decide +kernel) Go.Proofs.Try.Hdr.tb_specCount_ok) (by decide +kernel) Go.Proofs.Try.Hdr.tb_specWithout_ok) (by decide +kernel) Go.Proofs.Try.HdrR.tb_specSameF_ok) (by decide +kernel) Go.Proofs.Try.Hfx.tb_specLives_ok)
set_option maxRecDepth 100000 in
set_option maxHeartbeats 4000000 in
theorem specLawOne (l : List Fld) (fo : Int) (a p : List UInt8) (au : List UInt8) (ver : Int) (hl : l.length ≤ maxLen) : SpecE Try.prog 19 [] [enc_flds l, .agg [.int .i64 fo, .str a, .str p], .agg [.str au, .int .i64 ver]] [] (.bool true) := by
  refine specF0 (C := T_specLawOne) (wr := false) (D := fun _ => []) (U := fun _ => none) (res := [.bool true]) Try.Ty.mixed T_specLawOne_ok Try.func19 (nA := 3) (by decide +kernel) rfl (fun _ => rfl) ?_
  simp only [Try.f19, bodyOf, rlOf]
  rw [W_V]
  simp (config := {maxSteps := 2000000}) only [T_specLawOne, Go.Proofs.Try.HdrR.tb_specFew, Go.Proofs.Try.Hfx.tb_specFix, Go.Proofs.Try.Hfx.tb_specKey, Go.Proofs.Try.Hdr.tb_specGet, Go.Proofs.Try.Host.tb_specKey, Go.Proofs.Try.Hdr.tb_specCount, Go.Proofs.Try.Hdr.tb_specWithout, Go.Proofs.Try.HdrR.tb_specSameF, Go.Proofs.Try.Hfx.tb_specLives, go_sem, reduceIte, Nat.reduceEqDiff, Nat.reduceAdd, Nat.reduceMul, Nat.reduceSub, Nat.reduceBEq, Nat.reduceLT, Nat.reduceLeDiff, reduceCtorEq, Int.reduceNeg, Int.reduceEq, String.reduceEq, Int.reduceLT, Int.reduceLE, Int.reduceToNat, Int.reduceAdd, Int.reduceMul, Int.reduceSub, true_and]
  (try simp (config := {maxSteps := 2000000}) only [gimp, impB, isT, go_sem, reduceIte, Nat.reduceEqDiff, Nat.reduceAdd, Nat.reduceMul, Nat.reduceSub, Nat.reduceBEq, Nat.reduceLT, Nat.reduceLeDiff, reduceCtorEq, Int.reduceNeg, Int.reduceEq, String.reduceEq, Int.reduceLT, Int.reduceLE, Int.reduceToNat, Int.reduceAdd, Int.reduceMul, Int.reduceSub])
  refine ⟨hl, fun hfew h1 h2 h3 => ?_⟩
  obtain ⟨f1, f2⟩ := fewF_len hfew
  have c1 : l.length ≤ 1000 := by omega
  have c3 : ∀ f ∈ l, f.1.length ≤ 1000000 := fun f h => by have := (f2 f h).1; omega
  have c4 : ∀ f ∈ l, f.2.length ≤ 1000 := fun f h => by have := (f2 f h).2; omega
  have c5 := hfFix_len l (hfPlace l fo a au) 1
  have d1 : a.length ≤ 1000 := by omega
  have d2 : au.length ≤ 1000 := by omega
  have hpl := hfPlace_len (fo := fo) c4 d1 d2
  refine ⟨⟨c1, c4, d1, d2⟩, fun hbad => ?_, fun hok => ?_⟩
  · obtain ⟨b1, b2⟩ := hfFix_bad (l := l) hbad
    rw [b1, b2]
    exact ⟨⟨fun _ => c1, fun _ => c4, fun _ => d1, fun _ => d2⟩, rfl, rfl⟩
  obtain ⟨b1, b2⟩ := hfFix_ok (l := l) hok
  generalize hfPlace l fo a au = s at *
  have k1 : allS (setS l nmHost s) [72, 111, 115, 116] = [s] := set_all l nmHost s
  have k2 := hf_get l s
  have k3 : hostKeyOk s = true := by rw [hostKeyOk, b1]; rfl
  have k4 := hf_without l s
  have k5 : ∀ M : List Fld, List.take (withoutS M [[104, 111, 115, 116]]).length (delP ([], []) (isN [[104, 111, 115, 116]]) M) = withoutS M [[104, 111, 115, 116]] := fun M => delP_take _ _ _
  have k6 : ∀ M : List Fld, (delP ([], []) (isN [[104, 111, 115, 116]]) M).length = M.length := fun M => delP_len _ _ _
  have k7 := without_len l [[104, 111, 115, 116]]
  have k8 := setS_len l nmHost s
  have hm : (4 : Nat) ≤ maxLen := by decide
  have hm1 : (1 : Nat) ≤ maxLen := by decide
  simp only [b2, k1, k2, k3, k5, k6, List.length_cons, List.length_nil, Nat.zero_add, Int.natCast_one, hm, hm1, c1, d1, d2, true_and, and_true, implies_true, forall_const, true_implies, decide_true, Bool.and_self, Bool.true_eq_false, false_implies]
  exact ⟨by omega, by omega, by omega, c4, by omega, by omega, by rw [k4]; omega, k4⟩
def tb_specLawOne : List Blk → List AV → Option (List Blk × AV × Prop)
  | [], [a0, .agg [.int .i64 fo, .str a, .str p], .agg [.str au, .int .i64 ver]] => some ([], .bool true, ((dec_flds a0).length ≤ maxLen) ∧ argOK a0 (enc_flds (dec_flds a0)))
  | _, _ => none
theorem tb_specLawOne_ok : ∀ E args E' res p, tb_specLawOne E args = some (E', res, p) → p → SpecE Try.prog 19 E args E' res := by
  intro E args E' res p h hp
  unfold tb_specLawOne at h
  split at h
  · simp only [Option.some.injEq, Prod.mk.injEq] at h
    obtain ⟨rfl, rfl, rfl⟩ := h
    exact SpecE.args (specLawOne _ _ _ _ _ _ hp.1) (.cons hp.2 (.cons (argOK.refl _) (.cons (argOK.refl _) .nil)))
  · cases h
end Go.Proofs.Try.Hfx
