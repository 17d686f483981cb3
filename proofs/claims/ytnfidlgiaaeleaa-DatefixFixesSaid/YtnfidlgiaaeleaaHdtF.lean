/- httpdate: Parse, Print, Fix. No condition beyond those that a machine's numbers bring. -/
import Derived.Test.YtnfidlgiaaeleaaHdtW
import Derived.Test.YtnfidlgiaaeleaaCvlB
set_option linter.unusedVariables false
set_option linter.unusedSimpArgs false
namespace Go.Proofs.Try.Hdt
open Go Go.Abs Go.Proofs Go.Mdl Go.Proofs.Try.Civil

def hdPats : List (List UInt8) := [hdPat1, hdPat2, hdPat3]

def T_specPatternsH : Tbl := fun g E args => nilT g E args
theorem T_specPatternsH_ok : TblOK Try.prog T_specPatternsH := nilT_ok
set_option maxRecDepth 100000 in
set_option maxHeartbeats 4000000 in
theorem specPatternsH : SpecE Try.prog 43 [] [] [] (.agg [.str hdPat1, .str hdPat2, .str hdPat3]) := by
  refine specF0 (C := T_specPatternsH) (wr := false) (D := fun _ => []) (U := fun _ => none) (res := [.agg [.str hdPat1, .str hdPat2, .str hdPat3]]) Try.Ty.mixed T_specPatternsH_ok Try.func43 (nA := 0) (by decide +kernel) rfl (fun _ => rfl) ?_
  simp only [Try.f43, bodyOf, rlOf]
  rw [W_V]
  simp (config := {maxSteps := 2000000}) only [T_specPatternsH, go_sem, reduceIte, Nat.reduceEqDiff, Nat.reduceAdd, Nat.reduceMul, Nat.reduceDiv, Nat.reduceMod, Nat.reduceSub, Nat.reduceBEq, Nat.reduceLT, Nat.reduceLeDiff, reduceCtorEq, Int.reduceNeg, Int.reduceEq, String.reduceEq, Int.reduceLT, Int.reduceLE, Int.reduceToNat, Int.reduceAdd, Int.reduceMul, Int.reduceSub, hdPat1, hdPat2, hdPat3]
  (try simp (config := {maxSteps := 2000000}) only [gimp, impB, isT, go_sem, reduceIte, Nat.reduceEqDiff, Nat.reduceAdd, Nat.reduceMul, Nat.reduceDiv, Nat.reduceMod, Nat.reduceSub, Nat.reduceBEq, Nat.reduceLT, Nat.reduceLeDiff, reduceCtorEq, Int.reduceNeg, Int.reduceEq, String.reduceEq, Int.reduceLT, Int.reduceLE, Int.reduceToNat, Int.reduceAdd, Int.reduceMul, Int.reduceSub])
def tb_specPatternsH : List Blk → List AV → Option (List Blk × AV × Prop)
  | [], [] => some ([], .agg [.str hdPat1, .str hdPat2, .str hdPat3], True)
  | _, _ => none
theorem tb_specPatternsH_ok : ∀ E args E' res p, tb_specPatternsH E args = some (E', res, p) → p → SpecE Try.prog 43 E args E' res := by
  intro E args E' res p h hp
  unfold tb_specPatternsH at h
  split at h
  · simp only [Option.some.injEq, Prod.mk.injEq] at h
    obtain ⟨rfl, rfl, rfl⟩ := h
    exact specPatternsH
  · cases h

theorem rem_range {a b : Int} (hb : 0 < b) : -b < a.tmod b ∧ a.tmod b < b := by
  rcases tdiv_cases a b hb with ⟨h, h1, h2⟩ | ⟨h, h1, h2⟩
  · rw [h2]; have := Int.emod_nonneg a (by omega : b ≠ 0); have := Int.emod_lt_of_pos a hb; omega
  · rw [h2]; have := Int.emod_nonneg (-a) (by omega : b ≠ 0); have := Int.emod_lt_of_pos (-a) hb; omega
def T_specNearH : Tbl := fun g E args => nilT g E args
theorem T_specNearH_ok : TblOK Try.prog T_specNearH := nilT_ok
set_option maxRecDepth 100000 in
set_option maxHeartbeats 4000000 in
theorem specNearH (two year : Int) (h1 : -1000000 ≤ two ∧ two ≤ 1000000) (h2 : -1000000 ≤ year ∧ year ≤ 1000000) : SpecE Try.prog 45 [] [.int .i64 two, .int .i64 year] [] (.int .i64 (nearI two year)) := by
  refine specF0 (C := T_specNearH) (wr := false) (D := fun _ => []) (U := fun _ => none) (res := [.int .i64 (nearI two year)]) Try.Ty.mixed T_specNearH_ok Try.func45 (nA := 2) (by decide +kernel) rfl (fun _ => rfl) ?_
  simp only [Try.f45, bodyOf, rlOf]
  rw [W_V]
  simp (config := {maxSteps := 2000000}) only [T_specNearH, go_sem, reduceIte, Nat.reduceEqDiff, Nat.reduceAdd, Nat.reduceMul, Nat.reduceDiv, Nat.reduceMod, Nat.reduceSub, Nat.reduceBEq, Nat.reduceLT, Nat.reduceLeDiff, reduceCtorEq, Int.reduceNeg, Int.reduceEq, String.reduceEq, Int.reduceLT, Int.reduceLE, Int.reduceToNat, Int.reduceAdd, Int.reduceMul, Int.reduceSub, nearI]
  (try simp (config := {maxSteps := 2000000}) only [gimp, impB, isT, go_sem, reduceIte, Nat.reduceEqDiff, Nat.reduceAdd, Nat.reduceMul, Nat.reduceDiv, Nat.reduceMod, Nat.reduceSub, Nat.reduceBEq, Nat.reduceLT, Nat.reduceLeDiff, reduceCtorEq, Int.reduceNeg, Int.reduceEq, String.reduceEq, Int.reduceLT, Int.reduceLE, Int.reduceToNat, Int.reduceAdd, Int.reduceMul, Int.reduceSub])
  have := rem_range (a := year + 50 - two) (b := 100) (by omega)
  have := rem_range (a := (year + 50 - two).tmod 100 + 100) (b := 100) (by omega)
  omega
def tb_specNearH : List Blk → List AV → Option (List Blk × AV × Prop)
  | [], [.int .i64 two, .int .i64 year] => some ([], .int .i64 (nearI two year), (-1000000 ≤ two ∧ two ≤ 1000000) ∧ (-1000000 ≤ year ∧ year ≤ 1000000))
  | _, _ => none
theorem tb_specNearH_ok : ∀ E args E' res p, tb_specNearH E args = some (E', res, p) → p → SpecE Try.prog 45 E args E' res := by
  intro E args E' res p h hp
  unfold tb_specNearH at h
  split at h
  · simp only [Option.some.injEq, Prod.mk.injEq] at h
    obtain ⟨rfl, rfl, rfl⟩ := h
    exact (specNearH _ _ hp.1 hp.2)
  · cases h

theorem aY_range (n : Int) : 0 ≤ aY n ∧ aY n ≤ 9999 := by
  unfold aY
  split
  · rename_i h
    have := right_bounds (day_back h).2
    unfold aY at this
    rw [if_pos h] at this
    omega
  · omega
theorem nmN_range (w : Nat) (s : List UInt8) : 0 ≤ nmN w s ∧ nmN w s ≤ 9999 := by
  unfold nmN
  split
  · omega
  · unfold numVal
    split
    · rename_i h
      unfold numErr at h
      split at h
      · omega
      · split at h
        · rename_i h2
          have := numV_nonneg (b := 10) (by omega) _ h2
          split at h <;> omega
        · omega
    · omega
theorem part_y (c : UInt8) (p : Rd) (h : 0 ≤ p.y ∧ p.y ≤ 9999) : 0 ≤ (partS c p).y ∧ (partS c p).y ≤ 9999 := by
  have h2 := nmN_range 2 p.s
  have h4 := nmN_range 4 p.s
  unfold partS
  (repeat' split) <;> simp only [Rd.word, Rd.num] <;> first | exact h | exact h2 | exact h4
theorem run_y (pat : List UInt8) (p : Rd) (h : 0 ≤ p.y ∧ p.y ≤ 9999) : 0 ≤ (runS pat p).y ∧ (runS pat p).y ≤ 9999 := by
  unfold runS
  induction pat generalizing p with
  | nil => exact h
  | cons c t ih => exact ih _ (part_y c p h)

/-- The year that a reader means. -/
def yearOf (now : Int) (p : Rd) : Int := if p.two = true then nearI p.y (aY (dQ now)) else p.y
def finOk (now : Int) (p : Rd) : Bool := secOk (yearOf now p) p.mo p.d p.h p.mi p.se && decide (weekday (dayAns (yearOf now p) p.mo p.d) = p.week)
def finN (now : Int) (p : Rd) : Int := if finOk now p = true then secNo (yearOf now p) p.mo p.d p.h p.mi p.se else 0
/-- What is told of the form after k others: seconds, form, what is wrong. -/
def hdGo (now : Int) (s : List UInt8) (k : Nat) : List (List UInt8) → Int × Int × Int
  | [] => (0, 0, 3)
  | pat :: t => if (wholeS s pat).bad = true then hdGo now s (k + 1) t else if finOk now (wholeS s pat) = true then (finN now (wholeS s pat), k + 1, 0) else (0, 0, 16)
def hdParse (s : List UInt8) (now : Int) : Int × Int × Int := if inDays (dQ now) = true then hdGo now s 0 hdPats else (0, 0, 1)

theorem go_case {now : Int} {s pat : List UInt8} {k : Nat} {t : List (List UInt8)} (hp : hdParse s now = hdGo now s k (pat :: t)) :
    ((wholeS s pat).bad = true → hdParse s now = hdGo now s (k + 1) t) ∧
    ((wholeS s pat).bad = false →
      ((wholeS s pat).two = true →
        (secOk (nearI (wholeS s pat).y (aY (dQ now))) (wholeS s pat).mo (wholeS s pat).d (wholeS s pat).h (wholeS s pat).mi (wholeS s pat).se = false ∨
          ¬weekday (dayAns (nearI (wholeS s pat).y (aY (dQ now))) (wholeS s pat).mo (wholeS s pat).d) = (wholeS s pat).week →
          0 = (hdParse s now).1 ∧ 0 = (hdParse s now).2.1 ∧ 16 = (hdParse s now).2.2) ∧
        (secOk (nearI (wholeS s pat).y (aY (dQ now))) (wholeS s pat).mo (wholeS s pat).d (wholeS s pat).h (wholeS s pat).mi (wholeS s pat).se = true →
          weekday (dayAns (nearI (wholeS s pat).y (aY (dQ now))) (wholeS s pat).mo (wholeS s pat).d) = (wholeS s pat).week →
          secNo (nearI (wholeS s pat).y (aY (dQ now))) (wholeS s pat).mo (wholeS s pat).d (wholeS s pat).h (wholeS s pat).mi (wholeS s pat).se = (hdParse s now).1 ∧ (k : Int) + 1 = (hdParse s now).2.1 ∧ 0 = (hdParse s now).2.2)) ∧
      ((wholeS s pat).two = false →
        (secOk (wholeS s pat).y (wholeS s pat).mo (wholeS s pat).d (wholeS s pat).h (wholeS s pat).mi (wholeS s pat).se = false ∨
          ¬weekday (dayAns (wholeS s pat).y (wholeS s pat).mo (wholeS s pat).d) = (wholeS s pat).week →
          0 = (hdParse s now).1 ∧ 0 = (hdParse s now).2.1 ∧ 16 = (hdParse s now).2.2) ∧
        (secOk (wholeS s pat).y (wholeS s pat).mo (wholeS s pat).d (wholeS s pat).h (wholeS s pat).mi (wholeS s pat).se = true →
          weekday (dayAns (wholeS s pat).y (wholeS s pat).mo (wholeS s pat).d) = (wholeS s pat).week →
          secNo (wholeS s pat).y (wholeS s pat).mo (wholeS s pat).d (wholeS s pat).h (wholeS s pat).mi (wholeS s pat).se = (hdParse s now).1 ∧ (k : Int) + 1 = (hdParse s now).2.1 ∧ 0 = (hdParse s now).2.2))) := by
  refine ⟨fun hb => by rw [hp, hdGo, if_pos hb], fun hb => ?_⟩
  have hb' : ¬ (wholeS s pat).bad = true := by rw [hb]; simp
  rw [hp, hdGo, if_neg hb']
  refine ⟨fun h2 => ?_, fun h2 => ?_⟩
  all_goals
    refine ⟨fun h => ?_, fun h1 h3 => ?_⟩
    · have : ¬ finOk now (wholeS s pat) = true := by
        unfold finOk yearOf
        rcases h with h | h <;> simp [h2, h]
      rw [if_neg this]; exact ⟨rfl, rfl, rfl⟩
    · have : finOk now (wholeS s pat) = true := by
        unfold finOk yearOf
        simp [h2, h1, h3]
      rw [if_pos this, finN, if_pos this]
      unfold yearOf
      simp [h2]

def T_specParseH : Tbl := fun g E args => (addT (addT (addT (addT (addT (addT (addT nilT 44 Go.Proofs.Try.Hdt.tb_specWhole) 43 Go.Proofs.Try.Hdt.tb_specPatternsH) 45 Go.Proofs.Try.Hdt.tb_specNearH) 42 Go.Proofs.Try.Civil.tb_specDate) 46 Go.Proofs.Try.Civil.tb_specSeconds) 47 Go.Proofs.Try.Civil.tb_pDays) 48 Go.Proofs.Try.Civil.tb_pWeekday) g E args
theorem T_specParseH_ok : TblOK Try.prog T_specParseH := (addT_ok (addT_ok (addT_ok (addT_ok (addT_ok (addT_ok (addT_ok nilT_ok (by decide +kernel) Go.Proofs.Try.Hdt.tb_specWhole_ok) (by decide +kernel) Go.Proofs.Try.Hdt.tb_specPatternsH_ok) (by decide +kernel) Go.Proofs.Try.Hdt.tb_specNearH_ok) (by decide +kernel) Go.Proofs.Try.Civil.tb_specDate_ok) (by decide +kernel) Go.Proofs.Try.Civil.tb_specSeconds_ok) (by decide +kernel) Go.Proofs.Try.Civil.tb_pDays_ok) (by decide +kernel) Go.Proofs.Try.Civil.tb_pWeekday_ok)
set_option maxRecDepth 100000 in
set_option maxHeartbeats 4000000 in
theorem specParseH (s : List UInt8) (now : Int) (hs : s.length ≤ 1000000) (hn : inR .i64 now) : SpecE Try.prog 14 [] [.str s, .int .i64 now] [] (.tuple [.int .i64 (hdParse s now).1, .int .i64 (hdParse s now).2.1, .int .i64 (hdParse s now).2.2]) := by
  refine specF0 (C := T_specParseH) (wr := false) (D := fun i => if i = 10 then [12] else []) (U := fun _ => none) (res := [.int .i64 (hdParse s now).1, .int .i64 (hdParse s now).2.1, .int .i64 (hdParse s now).2.2]) Try.Ty.mixed T_specParseH_ok Try.func14 (nA := 2) (by decide +kernel) rfl (fun _ => rfl) ?_
  simp only [Try.f14, bodyOf, rlOf]
  rw [W_V]
  simp (config := {maxSteps := 2000000}) only [T_specParseH, Go.Proofs.Try.Hdt.tb_specWhole, Go.Proofs.Try.Hdt.tb_specPatternsH, Go.Proofs.Try.Hdt.tb_specNearH, Go.Proofs.Try.Civil.tb_specDate, Go.Proofs.Try.Civil.tb_specSeconds, Go.Proofs.Try.Civil.tb_pDays, Go.Proofs.Try.Civil.tb_pWeekday, go_sem, reduceIte, Nat.reduceEqDiff, Nat.reduceAdd, Nat.reduceMul, Nat.reduceDiv, Nat.reduceMod, Nat.reduceSub, Nat.reduceBEq, Nat.reduceLT, Nat.reduceLeDiff, reduceCtorEq, Int.reduceNeg, Int.reduceEq, String.reduceEq, Int.reduceLT, Int.reduceLE, Int.reduceToNat, Int.reduceAdd, Int.reduceMul, Int.reduceSub, enc_rd, dateAV, rz]
  (try simp (config := {maxSteps := 2000000}) only [gimp, impB, isT, go_sem, reduceIte, Nat.reduceEqDiff, Nat.reduceAdd, Nat.reduceMul, Nat.reduceDiv, Nat.reduceMod, Nat.reduceSub, Nat.reduceBEq, Nat.reduceLT, Nat.reduceLeDiff, reduceCtorEq, Int.reduceNeg, Int.reduceEq, String.reduceEq, Int.reduceLT, Int.reduceLE, Int.reduceToNat, Int.reduceAdd, Int.reduceMul, Int.reduceSub])
  have hy : aY (dQ now) ≤ 1000000 ∧ -1000000 ≤ aY (dQ now) := by
    have := aY_range (dQ now)
    omega
  have hw : ∀ pat, (wholeS s pat).y ≤ 1000000 ∧ -1000000 ≤ (wholeS s pat).y := by
    intro pat
    have := run_y pat (rd0 s) (by simp [rd0])
    show (runS pat (rd0 s)).y ≤ 1000000 ∧ -1000000 ≤ (runS pat (rd0 s)).y
    omega
  refine ⟨hn, fun hno => ?_, fun hin => ?_⟩
  · simp [hdParse, hno]
  refine VL_inv (X := Nat) (fun k => ⟨[(0, .str s), (7, .ptr 128 0 0 1), (23, .agg [.str hdPat1, .str hdPat2, .str hdPat3]), (24, .int .i64 k)], [(128, .cells 6 false (dateAV 0 0 0 0 0 0) [dateAV (aY (dQ now)) (aM (dQ now)) (aD (dQ now)) (dIn now (dR now / 3600)) (dIn now (dR now / 60 % 60)) (dIn now (dR now % 60))])]⟩) (fun k => k ≤ 3 ∧ hdParse s now = hdGo now s k (hdPats.drop k)) (fun k => 3 - k) 0 ?_ ?_ ?_
  · simp only [T_specParseH, Go.Proofs.Try.Hdt.tb_specWhole, Go.Proofs.Try.Hdt.tb_specPatternsH, Go.Proofs.Try.Hdt.tb_specNearH, Go.Proofs.Try.Civil.tb_specDate, Go.Proofs.Try.Civil.tb_specSeconds, Go.Proofs.Try.Civil.tb_pDays, Go.Proofs.Try.Civil.tb_pWeekday, go_sem, reduceIte, Nat.reduceEqDiff, Nat.reduceAdd, Nat.reduceMul, Nat.reduceDiv, Nat.reduceMod, Nat.reduceSub, Nat.reduceBEq, Nat.reduceLT, Nat.reduceLeDiff, reduceCtorEq, Int.reduceNeg, Int.reduceEq, String.reduceEq, Int.reduceLT, Int.reduceLE, Int.reduceToNat, Int.reduceAdd, Int.reduceMul, Int.reduceSub, enc_rd, dateAV, rz]
    try rfl
  · exact ⟨by omega, by simp [hdParse, hin]⟩
  rintro k ⟨hk, hgo⟩
  obtain rfl | rfl | rfl | rfl : k = 0 ∨ k = 1 ∨ k = 2 ∨ k = 3 := by omega
  · rw [show ((0 : Nat) : Int) = 0 from rfl]
    simp (config := {maxSteps := 2000000}) only [T_specParseH, Go.Proofs.Try.Hdt.tb_specWhole, Go.Proofs.Try.Hdt.tb_specPatternsH, Go.Proofs.Try.Hdt.tb_specNearH, Go.Proofs.Try.Civil.tb_specDate, Go.Proofs.Try.Civil.tb_specSeconds, Go.Proofs.Try.Civil.tb_pDays, Go.Proofs.Try.Civil.tb_pWeekday, go_sem, reduceIte, Nat.reduceEqDiff, Nat.reduceAdd, Nat.reduceMul, Nat.reduceDiv, Nat.reduceMod, Nat.reduceSub, Nat.reduceBEq, Nat.reduceLT, Nat.reduceLeDiff, reduceCtorEq, Int.reduceNeg, Int.reduceEq, String.reduceEq, Int.reduceLT, Int.reduceLE, Int.reduceToNat, Int.reduceAdd, Int.reduceMul, Int.reduceSub, enc_rd, dateAV, rz]
    (try simp (config := {maxSteps := 2000000}) only [gimp, impB, isT, go_sem, reduceIte, Nat.reduceEqDiff, Nat.reduceAdd, Nat.reduceMul, Nat.reduceDiv, Nat.reduceMod, Nat.reduceSub, Nat.reduceBEq, Nat.reduceLT, Nat.reduceLeDiff, reduceCtorEq, Int.reduceNeg, Int.reduceEq, String.reduceEq, Int.reduceLT, Int.reduceLE, Int.reduceToNat, Int.reduceAdd, Int.reduceMul, Int.reduceSub])
    obtain ⟨g1, g2⟩ := go_case (k := 0) (pat := hdPat1) (t := [hdPat2, hdPat3]) hgo
    have hw' := hw hdPat1
    exact ⟨⟨hs, pat_ok1⟩, fun h => ⟨1, rfl, ⟨by omega, g1 h⟩, by omega⟩, fun h => ⟨fun h2 => ⟨⟨⟨hw'.2, hw'.1⟩, hy.2, hy.1⟩, (g2 h).1 h2⟩, (g2 h).2⟩⟩
  · rw [show ((1 : Nat) : Int) = 1 from rfl]
    simp (config := {maxSteps := 2000000}) only [T_specParseH, Go.Proofs.Try.Hdt.tb_specWhole, Go.Proofs.Try.Hdt.tb_specPatternsH, Go.Proofs.Try.Hdt.tb_specNearH, Go.Proofs.Try.Civil.tb_specDate, Go.Proofs.Try.Civil.tb_specSeconds, Go.Proofs.Try.Civil.tb_pDays, Go.Proofs.Try.Civil.tb_pWeekday, go_sem, reduceIte, Nat.reduceEqDiff, Nat.reduceAdd, Nat.reduceMul, Nat.reduceDiv, Nat.reduceMod, Nat.reduceSub, Nat.reduceBEq, Nat.reduceLT, Nat.reduceLeDiff, reduceCtorEq, Int.reduceNeg, Int.reduceEq, String.reduceEq, Int.reduceLT, Int.reduceLE, Int.reduceToNat, Int.reduceAdd, Int.reduceMul, Int.reduceSub, enc_rd, dateAV, rz]
    (try simp (config := {maxSteps := 2000000}) only [gimp, impB, isT, go_sem, reduceIte, Nat.reduceEqDiff, Nat.reduceAdd, Nat.reduceMul, Nat.reduceDiv, Nat.reduceMod, Nat.reduceSub, Nat.reduceBEq, Nat.reduceLT, Nat.reduceLeDiff, reduceCtorEq, Int.reduceNeg, Int.reduceEq, String.reduceEq, Int.reduceLT, Int.reduceLE, Int.reduceToNat, Int.reduceAdd, Int.reduceMul, Int.reduceSub])
    obtain ⟨g1, g2⟩ := go_case (k := 1) (pat := hdPat2) (t := [hdPat3]) hgo
    have hw' := hw hdPat2
    exact ⟨⟨hs, pat_ok2⟩, fun h => ⟨2, rfl, ⟨by omega, g1 h⟩, by omega⟩, fun h => ⟨fun h2 => ⟨⟨⟨hw'.2, hw'.1⟩, hy.2, hy.1⟩, (g2 h).1 h2⟩, (g2 h).2⟩⟩
  · rw [show ((2 : Nat) : Int) = 2 from rfl]
    simp (config := {maxSteps := 2000000}) only [T_specParseH, Go.Proofs.Try.Hdt.tb_specWhole, Go.Proofs.Try.Hdt.tb_specPatternsH, Go.Proofs.Try.Hdt.tb_specNearH, Go.Proofs.Try.Civil.tb_specDate, Go.Proofs.Try.Civil.tb_specSeconds, Go.Proofs.Try.Civil.tb_pDays, Go.Proofs.Try.Civil.tb_pWeekday, go_sem, reduceIte, Nat.reduceEqDiff, Nat.reduceAdd, Nat.reduceMul, Nat.reduceDiv, Nat.reduceMod, Nat.reduceSub, Nat.reduceBEq, Nat.reduceLT, Nat.reduceLeDiff, reduceCtorEq, Int.reduceNeg, Int.reduceEq, String.reduceEq, Int.reduceLT, Int.reduceLE, Int.reduceToNat, Int.reduceAdd, Int.reduceMul, Int.reduceSub, enc_rd, dateAV, rz]
    (try simp (config := {maxSteps := 2000000}) only [gimp, impB, isT, go_sem, reduceIte, Nat.reduceEqDiff, Nat.reduceAdd, Nat.reduceMul, Nat.reduceDiv, Nat.reduceMod, Nat.reduceSub, Nat.reduceBEq, Nat.reduceLT, Nat.reduceLeDiff, reduceCtorEq, Int.reduceNeg, Int.reduceEq, String.reduceEq, Int.reduceLT, Int.reduceLE, Int.reduceToNat, Int.reduceAdd, Int.reduceMul, Int.reduceSub])
    obtain ⟨g1, g2⟩ := go_case (k := 2) (pat := hdPat3) (t := []) hgo
    have hw' := hw hdPat3
    exact ⟨⟨hs, pat_ok3⟩, fun h => ⟨3, rfl, ⟨by omega, g1 h⟩, by omega⟩, fun h => ⟨fun h2 => ⟨⟨⟨hw'.2, hw'.1⟩, hy.2, hy.1⟩, (g2 h).1 h2⟩, (g2 h).2⟩⟩
  · rw [show ((3 : Nat) : Int) = 3 from rfl]
    simp (config := {maxSteps := 2000000}) only [T_specParseH, Go.Proofs.Try.Hdt.tb_specWhole, Go.Proofs.Try.Hdt.tb_specPatternsH, Go.Proofs.Try.Hdt.tb_specNearH, Go.Proofs.Try.Civil.tb_specDate, Go.Proofs.Try.Civil.tb_specSeconds, Go.Proofs.Try.Civil.tb_pDays, Go.Proofs.Try.Civil.tb_pWeekday, go_sem, reduceIte, Nat.reduceEqDiff, Nat.reduceAdd, Nat.reduceMul, Nat.reduceDiv, Nat.reduceMod, Nat.reduceSub, Nat.reduceBEq, Nat.reduceLT, Nat.reduceLeDiff, reduceCtorEq, Int.reduceNeg, Int.reduceEq, String.reduceEq, Int.reduceLT, Int.reduceLE, Int.reduceToNat, Int.reduceAdd, Int.reduceMul, Int.reduceSub, enc_rd, dateAV, rz]
    (try simp (config := {maxSteps := 2000000}) only [gimp, impB, isT, go_sem, reduceIte, Nat.reduceEqDiff, Nat.reduceAdd, Nat.reduceMul, Nat.reduceDiv, Nat.reduceMod, Nat.reduceSub, Nat.reduceBEq, Nat.reduceLT, Nat.reduceLeDiff, reduceCtorEq, Int.reduceNeg, Int.reduceEq, String.reduceEq, Int.reduceLT, Int.reduceLE, Int.reduceToNat, Int.reduceAdd, Int.reduceMul, Int.reduceSub])
    rw [hgo]
    exact ⟨rfl, rfl, rfl⟩
def tb_specParseH : List Blk → List AV → Option (List Blk × AV × Prop)
  | [], [.str s, .int .i64 now] => some ([], .tuple [.int .i64 (hdParse s now).1, .int .i64 (hdParse s now).2.1, .int .i64 (hdParse s now).2.2], (s.length ≤ 1000000) ∧ (inR .i64 now))
  | _, _ => none
theorem tb_specParseH_ok : ∀ E args E' res p, tb_specParseH E args = some (E', res, p) → p → SpecE Try.prog 14 E args E' res := by
  intro E args E' res p h hp
  unfold tb_specParseH at h
  split at h
  · simp only [Option.some.injEq, Prod.mk.injEq] at h
    obtain ⟨rfl, rfl, rfl⟩ := h
    exact (specParseH _ _ hp.1 hp.2)
  · cases h
end Go.Proofs.Try.Hdt
