/- httpdate: the statements' code. No condition beyond those that a machine's numbers bring. -/
import Derived.Test.YtnfidlgiaaeleaaHdtS2
import Derived.Test.YtnfidlgiaaeleaaHdtV
set_option linter.unusedVariables false
set_option linter.unusedSimpArgs false
namespace Go.Proofs.Try.HdtR
open Go Go.Abs Go.Proofs Go.Mdl Go.Proofs.Try.Civil Go.Proofs.Try.Hdt

def T_specLives : Tbl := fun g E args => (addT (addT nilT 16 Go.Proofs.Try.Hdt.tb_specFixH) 19 Go.Proofs.Try.Hdt.tb_specPrintH) g E args
theorem T_specLives_ok : TblOK Try.prog T_specLives := (addT_ok (addT_ok nilT_ok (by decide +kernel) Go.Proofs.Try.Hdt.tb_specFixH_ok) (by decide +kernel) Go.Proofs.Try.Hdt.tb_specPrintH_ok)
set_option maxRecDepth 100000 in
set_option maxHeartbeats 4000000 in
theorem specLives : SpecE Try.prog 18 [] [] [] (.bool true) := by
  refine specF0 (C := T_specLives) (wr := false) (D := fun _ => []) (U := fun _ => none) (res := [.bool true]) Try.Ty.mixed T_specLives_ok Try.func18 (nA := 0) (by decide +kernel) rfl (fun _ => rfl) ?_
  simp only [Try.f18, bodyOf, rlOf]
  rw [W_V]
  simp (config := {maxSteps := 2000000}) only [T_specLives, Go.Proofs.Try.Hdt.tb_specFixH, Go.Proofs.Try.Hdt.tb_specPrintH, go_sem, reduceIte, Nat.reduceEqDiff, Nat.reduceAdd, Nat.reduceMul, Nat.reduceDiv, Nat.reduceMod, Nat.reduceSub, Nat.reduceBEq, Nat.reduceLT, Nat.reduceLeDiff, reduceCtorEq, Int.reduceNeg, Int.reduceEq, String.reduceEq, Int.reduceLT, Int.reduceLE, Int.reduceToNat, Int.reduceAdd, Int.reduceMul, Int.reduceSub]
  (try simp (config := {maxSteps := 2000000}) only [gimp, impB, isT, go_sem, reduceIte, Nat.reduceEqDiff, Nat.reduceAdd, Nat.reduceMul, Nat.reduceDiv, Nat.reduceMod, Nat.reduceSub, Nat.reduceBEq, Nat.reduceLT, Nat.reduceLeDiff, reduceCtorEq, Int.reduceNeg, Int.reduceEq, String.reduceEq, Int.reduceLT, Int.reduceLE, Int.reduceToNat, Int.reduceAdd, Int.reduceMul, Int.reduceSub])
  decide +kernel
def tb_specLives : List Blk → List AV → Option (List Blk × AV × Prop)
  | [], [] => some ([], .bool true, True)
  | _, _ => none
theorem tb_specLives_ok : ∀ E args E' res p, tb_specLives E args = some (E', res, p) → p → SpecE Try.prog 18 E args E' res := by
  intro E args E' res p h hp
  unfold tb_specLives at h
  split at h
  · simp only [Option.some.injEq, Prod.mk.injEq] at h
    obtain ⟨rfl, rfl, rfl⟩ := h
    exact specLives
  · cases h
theorem day_le (n : Nat) : (hdDays.getD n []).length ≤ 9 := by
  by_cases h : n < 7
  · have : ∀ n, n < 7 → (hdDays.getD n []).length ≤ 9 := by decide
    exact this n h
  · rw [List.getD_eq_getElem?_getD, List.getElem?_eq_none]
    · simp
    · show 7 ≤ n; omega
theorem writeS_le (d : Dt) (w form : Int) : (writeS d w form).length ≤ 1000 := by
  have h1 := padL_le d.h 2
  have h2 := padL_le d.mi 2
  have h3 := padL_le d.se 2
  have h4 := padL_le d.d 2
  have h4' := padL_le d.d 1
  have h5 := padL_le d.y 4
  have h5' := padL_le (d.y % 100) 2
  have h6 := mon_le (d.mo - 1).toNat
  have h7 := day_le w.toNat
  unfold writeS
  (repeat' split) <;> (simp only [clkS, List.length_append, List.length_cons, List.length_nil, List.length_take]) <;> omega
theorem printH_le (t : Int) : (printH t).length ≤ 1000 := by
  unfold printH
  split
  · exact writeS_le _ _ _
  · simp
/-- What comes back from the three forms. -/
theorem form_back {t now : Int} (h : inDays (dQ t) = true) (hn : inDays (dQ now) = true) {k : Nat} (hk : k < 3) (h2 : ((k : Int) + 1 = 2 → aY (dQ now) - 50 < aY (dQ t) ∧ aY (dQ t) ≤ aY (dQ now) + 50)) :
    hdParse (writeS (dtQ t) (wdD (dtQ t)) ((k : Int) + 1)) now = (t, (k : Int) + 1, 0) := by
  obtain rfl | rfl | rfl : k = 0 ∨ k = 1 ∨ k = 2 := by omega
  · exact parse_back1 h hn
  · exact parse_back2 h hn (h2 rfl).1 (h2 rfl).2
  · exact parse_back3 h hn
def T_specLawPrints : Tbl := fun g E args => (addT (addT (addT nilT 19 Go.Proofs.Try.Hdt.tb_specPrintH) 20 Go.Proofs.Try.HdtR.tb_specPrintR) 18 Go.Proofs.Try.HdtR.tb_specLives) g E args
theorem T_specLawPrints_ok : TblOK Try.prog T_specLawPrints := (addT_ok (addT_ok (addT_ok nilT_ok (by decide +kernel) Go.Proofs.Try.Hdt.tb_specPrintH_ok) (by decide +kernel) Go.Proofs.Try.HdtR.tb_specPrintR_ok) (by decide +kernel) Go.Proofs.Try.HdtR.tb_specLives_ok)
set_option maxRecDepth 100000 in
set_option maxHeartbeats 4000000 in
theorem specLawPrints (t : Int) (ht : inR .i64 t) : SpecE Try.prog 5 [] [.int .i64 t] [] (.bool true) := by
  refine specF0 (C := T_specLawPrints) (wr := false) (D := fun _ => []) (U := fun _ => none) (res := [.bool true]) Try.Ty.mixed T_specLawPrints_ok Try.func5 (nA := 1) (by decide +kernel) rfl (fun _ => rfl) ?_
  simp only [Try.f5, bodyOf, rlOf]
  rw [W_V]
  simp (config := {maxSteps := 2000000}) only [T_specLawPrints, Go.Proofs.Try.Hdt.tb_specPrintH, Go.Proofs.Try.HdtR.tb_specPrintR, Go.Proofs.Try.HdtR.tb_specLives, go_sem, reduceIte, Nat.reduceEqDiff, Nat.reduceAdd, Nat.reduceMul, Nat.reduceDiv, Nat.reduceMod, Nat.reduceSub, Nat.reduceBEq, Nat.reduceLT, Nat.reduceLeDiff, reduceCtorEq, Int.reduceNeg, Int.reduceEq, String.reduceEq, Int.reduceLT, Int.reduceLE, Int.reduceToNat, Int.reduceAdd, Int.reduceMul, Int.reduceSub]
  (try simp (config := {maxSteps := 2000000}) only [gimp, impB, isT, go_sem, reduceIte, Nat.reduceEqDiff, Nat.reduceAdd, Nat.reduceMul, Nat.reduceDiv, Nat.reduceMod, Nat.reduceSub, Nat.reduceBEq, Nat.reduceLT, Nat.reduceLeDiff, reduceCtorEq, Int.reduceNeg, Int.reduceEq, String.reduceEq, Int.reduceLT, Int.reduceLE, Int.reduceToNat, Int.reduceAdd, Int.reduceMul, Int.reduceSub])
  simp only [inR] at ht; exact ht
def tb_specLawPrints : List Blk → List AV → Option (List Blk × AV × Prop)
  | [], [.int .i64 t] => some ([], .bool true, (inR .i64 t))
  | _, _ => none
theorem tb_specLawPrints_ok : ∀ E args E' res p, tb_specLawPrints E args = some (E', res, p) → p → SpecE Try.prog 5 E args E' res := by
  intro E args E' res p h hp
  unfold tb_specLawPrints at h
  split at h
  · simp only [Option.some.injEq, Prod.mk.injEq] at h
    obtain ⟨rfl, rfl, rfl⟩ := h
    exact (specLawPrints _ hp)
  · cases h
def T_specLawParses : Tbl := fun g E args => (addT (addT (addT (addT (addT nilT 14 Go.Proofs.Try.Hdt.tb_specParseH) 15 Go.Proofs.Try.HdtR.tb_specParseR) 16 Go.Proofs.Try.Hdt.tb_specFixH) 17 Go.Proofs.Try.HdtR.tb_specFixR) 18 Go.Proofs.Try.HdtR.tb_specLives) g E args
theorem T_specLawParses_ok : TblOK Try.prog T_specLawParses := (addT_ok (addT_ok (addT_ok (addT_ok (addT_ok nilT_ok (by decide +kernel) Go.Proofs.Try.Hdt.tb_specParseH_ok) (by decide +kernel) Go.Proofs.Try.HdtR.tb_specParseR_ok) (by decide +kernel) Go.Proofs.Try.Hdt.tb_specFixH_ok) (by decide +kernel) Go.Proofs.Try.HdtR.tb_specFixR_ok) (by decide +kernel) Go.Proofs.Try.HdtR.tb_specLives_ok)
set_option maxRecDepth 100000 in
set_option maxHeartbeats 4000000 in
theorem specLawParses (s : List UInt8) (now : Int) (hs : s.length ≤ maxLen) (hn : inR .i64 now) : SpecE Try.prog 4 [] [.str s, .int .i64 now] [] (.bool true) := by
  refine specF0 (C := T_specLawParses) (wr := false) (D := fun _ => []) (U := fun _ => none) (res := [.bool true]) Try.Ty.mixed T_specLawParses_ok Try.func4 (nA := 2) (by decide +kernel) rfl (fun _ => rfl) ?_
  simp only [Try.f4, bodyOf, rlOf]
  rw [W_V]
  simp (config := {maxSteps := 2000000}) only [T_specLawParses, Go.Proofs.Try.Hdt.tb_specParseH, Go.Proofs.Try.HdtR.tb_specParseR, Go.Proofs.Try.Hdt.tb_specFixH, Go.Proofs.Try.HdtR.tb_specFixR, Go.Proofs.Try.HdtR.tb_specLives, go_sem, reduceIte, Nat.reduceEqDiff, Nat.reduceAdd, Nat.reduceMul, Nat.reduceDiv, Nat.reduceMod, Nat.reduceSub, Nat.reduceBEq, Nat.reduceLT, Nat.reduceLeDiff, reduceCtorEq, Int.reduceNeg, Int.reduceEq, String.reduceEq, Int.reduceLT, Int.reduceLE, Int.reduceToNat, Int.reduceAdd, Int.reduceMul, Int.reduceSub]
  (try simp (config := {maxSteps := 2000000}) only [gimp, impB, isT, go_sem, reduceIte, Nat.reduceEqDiff, Nat.reduceAdd, Nat.reduceMul, Nat.reduceDiv, Nat.reduceMod, Nat.reduceSub, Nat.reduceBEq, Nat.reduceLT, Nat.reduceLeDiff, reduceCtorEq, Int.reduceNeg, Int.reduceEq, String.reduceEq, Int.reduceLT, Int.reduceLE, Int.reduceToNat, Int.reduceAdd, Int.reduceMul, Int.reduceSub])
  simp only [inR] at hn
  exact ⟨by rw [List.length_take]; omega, hn⟩
def tb_specLawParses : List Blk → List AV → Option (List Blk × AV × Prop)
  | [], [.str s, .int .i64 now] => some ([], .bool true, (s.length ≤ maxLen) ∧ (inR .i64 now))
  | _, _ => none
theorem tb_specLawParses_ok : ∀ E args E' res p, tb_specLawParses E args = some (E', res, p) → p → SpecE Try.prog 4 E args E' res := by
  intro E args E' res p h hp
  unfold tb_specLawParses at h
  split at h
  · simp only [Option.some.injEq, Prod.mk.injEq] at h
    obtain ⟨rfl, rfl, rfl⟩ := h
    exact (specLawParses _ _ hp.1 hp.2)
  · cases h
def T_specLawBack : Tbl := fun g E args => (addT (addT (addT (addT (addT (addT nilT 21 Go.Proofs.Try.Civil.tb_specDateR) 14 Go.Proofs.Try.Hdt.tb_specParseH) 16 Go.Proofs.Try.Hdt.tb_specFixH) 19 Go.Proofs.Try.Hdt.tb_specPrintH) 22 Go.Proofs.Try.HdtR.tb_specWriteR) 18 Go.Proofs.Try.HdtR.tb_specLives) g E args
theorem T_specLawBack_ok : TblOK Try.prog T_specLawBack := (addT_ok (addT_ok (addT_ok (addT_ok (addT_ok (addT_ok nilT_ok (by decide +kernel) Go.Proofs.Try.Civil.tb_specDateR_ok) (by decide +kernel) Go.Proofs.Try.Hdt.tb_specParseH_ok) (by decide +kernel) Go.Proofs.Try.Hdt.tb_specFixH_ok) (by decide +kernel) Go.Proofs.Try.Hdt.tb_specPrintH_ok) (by decide +kernel) Go.Proofs.Try.HdtR.tb_specWriteR_ok) (by decide +kernel) Go.Proofs.Try.HdtR.tb_specLives_ok)
set_option maxRecDepth 100000 in
set_option maxHeartbeats 4000000 in
theorem specLawBack (t now : Int) (ht : inR .i64 t) (hn : inR .i64 now) : SpecE Try.prog 6 [] [.int .i64 t, .int .i64 now] [] (.bool true) := by
  refine specF0 (C := T_specLawBack) (wr := false) (D := fun _ => []) (U := fun _ => none) (res := [.bool true]) Try.Ty.mixed T_specLawBack_ok Try.func6 (nA := 2) (by decide +kernel) rfl (fun _ => rfl) ?_
  simp only [Try.f6, bodyOf, rlOf]
  rw [W_V]
  simp (config := {maxSteps := 2000000}) only [T_specLawBack, Go.Proofs.Try.Civil.tb_specDateR, Go.Proofs.Try.Hdt.tb_specParseH, Go.Proofs.Try.Hdt.tb_specFixH, Go.Proofs.Try.Hdt.tb_specPrintH, Go.Proofs.Try.HdtR.tb_specWriteR, Go.Proofs.Try.HdtR.tb_specLives, go_sem, reduceIte, Nat.reduceEqDiff, Nat.reduceAdd, Nat.reduceMul, Nat.reduceDiv, Nat.reduceMod, Nat.reduceSub, Nat.reduceBEq, Nat.reduceLT, Nat.reduceLeDiff, reduceCtorEq, Int.reduceNeg, Int.reduceEq, String.reduceEq, Int.reduceLT, Int.reduceLE, Int.reduceToNat, Int.reduceAdd, Int.reduceMul, Int.reduceSub, dateAV]
  (try simp (config := {maxSteps := 2000000}) only [gimp, impB, isT, go_sem, reduceIte, Nat.reduceEqDiff, Nat.reduceAdd, Nat.reduceMul, Nat.reduceDiv, Nat.reduceMod, Nat.reduceSub, Nat.reduceBEq, Nat.reduceLT, Nat.reduceLeDiff, reduceCtorEq, Int.reduceNeg, Int.reduceEq, String.reduceEq, Int.reduceLT, Int.reduceLE, Int.reduceToNat, Int.reduceAdd, Int.reduceMul, Int.reduceSub])
  simp only [inR] at ht hn
  refine ⟨ht, hn, fun hi hj => ?_⟩
  have htr := dtQ_in hi
  have hz : ∀ y : Int, (.agg [.int .i64 (aY (dQ y)), .int .i64 (aM (dQ y)), .int .i64 (aD (dQ y)), .int .i64 (dIn y (dR y / 3600)), .int .i64 (dIn y (dR y / 60 % 60)), .int .i64 (dIn y (dR y % 60))] : AV) = .agg [.int .i64 (dtQ y).y, .int .i64 (dtQ y).mo, .int .i64 (dtQ y).d, .int .i64 (dtQ y).h, .int .i64 (dtQ y).mi, .int .i64 (dtQ y).se] := fun _ => rfl
  refine VL_inv (X := Nat) (fun k => ⟨[(0, .int .i64 t), (1, .int .i64 now), (5, .ptr 96 0 0 1), (7, .ptr 128 0 0 1), (9, .int .i64 ((k : Int) + 1))], [(96, .cells 6 false (.agg [.int .i64 0, .int .i64 0, .int .i64 0, .int .i64 0, .int .i64 0, .int .i64 0]) [.agg [.int .i64 (dtQ t).y, .int .i64 (dtQ t).mo, .int .i64 (dtQ t).d, .int .i64 (dtQ t).h, .int .i64 (dtQ t).mi, .int .i64 (dtQ t).se]]), (128, .cells 6 false (.agg [.int .i64 0, .int .i64 0, .int .i64 0, .int .i64 0, .int .i64 0, .int .i64 0]) [.agg [.int .i64 (dtQ now).y, .int .i64 (dtQ now).mo, .int .i64 (dtQ now).d, .int .i64 (dtQ now).h, .int .i64 (dtQ now).mi, .int .i64 (dtQ now).se]])]⟩) (fun k => k ≤ 3) (fun k => 3 - k) 0 ?_ ?_ ?_
  · simp only [hz, T_specLawBack, Go.Proofs.Try.Civil.tb_specDateR, Go.Proofs.Try.Hdt.tb_specParseH, Go.Proofs.Try.Hdt.tb_specFixH, Go.Proofs.Try.Hdt.tb_specPrintH, Go.Proofs.Try.HdtR.tb_specWriteR, Go.Proofs.Try.HdtR.tb_specLives, go_sem, reduceIte, Nat.reduceEqDiff, Nat.reduceAdd, Nat.reduceMul, Nat.reduceDiv, Nat.reduceMod, Nat.reduceSub, Nat.reduceBEq, Nat.reduceLT, Nat.reduceLeDiff, reduceCtorEq, Int.reduceNeg, Int.reduceEq, String.reduceEq, Int.reduceLT, Int.reduceLE, Int.reduceToNat, Int.reduceAdd, Int.reduceMul, Int.reduceSub, dateAV]
    try rfl
  · omega
  rintro k hk
  simp (config := {maxSteps := 2000000}) only [T_specLawBack, Go.Proofs.Try.Civil.tb_specDateR, Go.Proofs.Try.Hdt.tb_specParseH, Go.Proofs.Try.Hdt.tb_specFixH, Go.Proofs.Try.Hdt.tb_specPrintH, Go.Proofs.Try.HdtR.tb_specWriteR, Go.Proofs.Try.HdtR.tb_specLives, go_sem, reduceIte, Nat.reduceEqDiff, Nat.reduceAdd, Nat.reduceMul, Nat.reduceDiv, Nat.reduceMod, Nat.reduceSub, Nat.reduceBEq, Nat.reduceLT, Nat.reduceLeDiff, reduceCtorEq, Int.reduceNeg, Int.reduceEq, String.reduceEq, Int.reduceLT, Int.reduceLE, Int.reduceToNat, Int.reduceAdd, Int.reduceMul, Int.reduceSub, dateAV]
  (try simp (config := {maxSteps := 2000000}) only [gimp, impB, isT, go_sem, reduceIte, Nat.reduceEqDiff, Nat.reduceAdd, Nat.reduceMul, Nat.reduceDiv, Nat.reduceMod, Nat.reduceSub, Nat.reduceBEq, Nat.reduceLT, Nat.reduceLeDiff, reduceCtorEq, Int.reduceNeg, Int.reduceEq, String.reduceEq, Int.reduceLT, Int.reduceLE, Int.reduceToNat, Int.reduceAdd, Int.reduceMul, Int.reduceSub])
  have e1 : (⟨(dtQ t).y, (dtQ t).mo, (dtQ t).d, (dtQ t).h, (dtQ t).mi, (dtQ t).se⟩ : Dt) = dtQ t := rfl
  have e2 : weekday (dayAns (dtQ t).y (dtQ t).mo (dtQ t).d) = wdD (dtQ t) := rfl
  have e3 : (dtQ now).y = aY (dQ now) := rfl
  have e4 : (dtQ t).y = aY (dQ t) := rfl
  have hyr := Hdt.aY_range (dQ now)
  rw [e1, e2, e3, e4]
  have hle := writeS_le (dtQ t) (wdD (dtQ t)) ((k : Int) + 1)
  have hpl := printH_le t
  refine fun h3 => ⟨htr, ⟨fun _ => by omega, fun _ => by omega⟩, ⟨fun _ _ => by omega, fun _ _ => by omega⟩, fun _ _ => ⟨by omega, k + 1, by omega, by omega, by omega⟩, fun hc => ?_⟩
  have hb := form_back (k := k) hi hj (by omega) (fun h2 => by
    simp only [Bool.and_eq_false_iff, Bool.or_eq_false_iff, decide_eq_false_iff_not] at hc
    omega)
  have hf := fix_back hi hj hb
  simp only [hb, hf.1, hf.2]
  exact ⟨⟨by omega, hn⟩, ⟨by omega, hn⟩, ⟨fun _ _ _ => by omega, fun _ _ _ => by omega⟩, ⟨fun _ _ _ _ => by omega, fun _ _ _ _ => hn.1, fun _ _ _ _ => hn.2⟩, fun h => by simp at h, fun _ _ _ _ _ => ⟨by omega, k + 1, by omega, by omega, by omega⟩⟩
def tb_specLawBack : List Blk → List AV → Option (List Blk × AV × Prop)
  | [], [.int .i64 t, .int .i64 now] => some ([], .bool true, (inR .i64 t) ∧ (inR .i64 now))
  | _, _ => none
theorem tb_specLawBack_ok : ∀ E args E' res p, tb_specLawBack E args = some (E', res, p) → p → SpecE Try.prog 6 E args E' res := by
  intro E args E' res p h hp
  unfold tb_specLawBack at h
  split at h
  · simp only [Option.some.injEq, Prod.mk.injEq] at h
    obtain ⟨rfl, rfl, rfl⟩ := h
    exact (specLawBack _ _ hp.1 hp.2)
  · cases h
end Go.Proofs.Try.HdtR
