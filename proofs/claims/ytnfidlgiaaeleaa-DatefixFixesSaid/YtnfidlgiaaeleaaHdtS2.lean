/- httpdate: the walk of the document's answer, the second form. No condition beyond those that a machine's numbers bring. -/
import Derived.Test.YtnfidlgiaaeleaaHdtS3
import Derived.Test.YtnfidlgiaaeleaaHdtG
set_option linter.unusedVariables false
set_option linter.unusedSimpArgs false
namespace Go.Proofs.Try.HdtR
open Go Go.Abs Go.Proofs Go.Mdl Go.Proofs.Try.Civil Go.Proofs.Try.Hdt

def fmSt2 (s : List UInt8) (form now : Int) (k : Nat) : St := ⟨[(0, .str s), (1, .int .i64 form), (2, .int .i64 now), (6, .ptr 112 0 0 1), (7, .int .i64 0), (8, .bool false), (9, .ptr 160 0 0 1), (10, .int .i64 (-1)), (11, .int .i64 k)],
  [(112, .cells 6 false zdt [zdt]), (160, .cells 6 false zdt [zdt])]⟩
theorem cm_at {s : List UInt8} {k : Nat} (hk : k ≤ s.length) (hn : (s.take k).any (fun c => c == 44) = false) (he : (decide ((k : Int) < (s.length : Int)) && !decide (s.getD k 0 = 44)) = false) : cmI s = k := by
  simp only [Bool.and_eq_false_iff, decide_eq_false_iff_not, Bool.not_eq_false', decide_eq_true_eq] at he
  unfold cmI
  have hnone : ∀ j, j < k → ¬ (s.getD j 0 == 44) = true := by
    intro j hj h
    have := any_hit (p := fun c => c == 44) (l := s.take k) (k := j) 0 (by rw [List.length_take]; omega) (by
      rw [List.getD_eq_getElem?_getD, List.getElem?_take_of_lt hj, ← List.getD_eq_getElem?_getD]; exact h)
    rw [this] at hn; cases hn
  by_cases hlt : k < s.length
  · have h44 : s.getD k 0 = 44 := by rcases he with h | h; omega; exact h
    rw [List.findIdx_eq hlt]
    refine ⟨?_, fun j hj => ?_⟩
    · have : s[k] = s.getD k 0 := by rw [List.getD_eq_getElem?_getD, List.getElem?_eq_getElem hlt]; rfl
      rw [this, h44]; rfl
    · have hjl : j < s.length := by omega
      have : s[j] = s.getD j 0 := by rw [List.getD_eq_getElem?_getD, List.getElem?_eq_getElem hjl]; rfl
      have h := hnone j hj
      rw [← this] at h
      simpa using h
  · have : k = s.length := by omega
    rw [this, List.findIdx_eq_length]
    rw [this, List.take_length] at hn
    intro x hx
    rw [← Bool.not_eq_true]
    intro h
    rw [List.any_eq_false] at hn
    exact hn x hx h
theorem cm_step {s : List UInt8} {k : Nat} (hk : k < s.length) (hn : (s.take k).any (fun c => c == 44) = false) (h : ¬ s.getD k 0 = 44) : (s.take (k + 1)).any (fun c => c == 44) = false := by
  rw [any_take_succ 0 hk hn]
  simpa using h
theorem d7 : List.take 7 hdDays = hdDays := rfl
theorem dig_le {c : UInt8} (h : isDig 10 c = true) : digB c ≤ 9 := by rw [isDig_iff] at h; omega
/-- Two digits. -/
theorem num2_le {x : List UInt8} (h : x.length ≤ 2) : numN x ≤ 99 := by
  unfold numN numVal
  split
  · rename_i he
    unfold numErr at he
    split at he
    · cases he
    split at he
    · rename_i ha
      rcases x with _ | ⟨a, _ | ⟨b, _ | ⟨c, t⟩⟩⟩
      · simp [numV]
      · simp only [List.all_cons, List.all_nil, Bool.and_true] at ha
        have := dig_le ha
        simp [numV]; omega
      · simp only [List.all_cons, List.all_nil, Bool.and_true, Bool.and_eq_true] at ha
        have := dig_le ha.1
        have := dig_le ha.2
        simp [numV]; omega
      · simp at h
    · cases he
  · omega
theorem mod_pos (a : Int) : (a.tmod 100 + 100).tmod 100 = a % 100 := by
  rcases Int.le_total 0 a with h | h
  · rw [Int.tmod_eq_emod_of_nonneg h, Int.tmod_eq_emod_of_nonneg (by omega)]; omega
  · have : a.tmod 100 = -((-a) % 100) := by
      have := Int.neg_tmod (-a) 100
      rw [Int.neg_neg] at this
      rw [this, Int.tmod_eq_emod_of_nonneg (by omega)]
    rw [this, Int.tmod_eq_emod_of_nonneg (by omega)]; omega
theorem near_eq (two x : Int) : nearI two x = x + 50 - (x + 50 - two) % 100 := by unfold nearI; rw [mod_pos]
def T_specForm2R : Tbl := fun g E args => (addT (addT (addT (addT (addT (addT nilT 83 Go.Proofs.Try.HdtR.tb_specNumberR) 84 Go.Proofs.Try.HdtR.tb_specTimeR) 56 Go.Proofs.Try.HdtR.tb_specDaysR) 57 Go.Proofs.Try.HdtR.tb_specMonthsR) 82 Go.Proofs.Try.HdtR.tb_specIndexR) 21 Go.Proofs.Try.Civil.tb_specDateR) g E args
theorem T_specForm2R_ok : TblOK Try.prog T_specForm2R := (addT_ok (addT_ok (addT_ok (addT_ok (addT_ok (addT_ok nilT_ok (by decide +kernel) Go.Proofs.Try.HdtR.tb_specNumberR_ok) (by decide +kernel) Go.Proofs.Try.HdtR.tb_specTimeR_ok) (by decide +kernel) Go.Proofs.Try.HdtR.tb_specDaysR_ok) (by decide +kernel) Go.Proofs.Try.HdtR.tb_specMonthsR_ok) (by decide +kernel) Go.Proofs.Try.HdtR.tb_specIndexR_ok) (by decide +kernel) Go.Proofs.Try.Civil.tb_specDateR_ok)
set_option maxRecDepth 100000 in
set_option maxHeartbeats 4000000 in
theorem specForm2R (s : List UInt8) (now : Int) (hs : s.length ≤ 1000000) (hn : inR .i64 now) : SpecE Try.prog 49 [] [.str s, .int .i64 2, .int .i64 now] [] (.tuple [.agg [.int .i64 (form2 (aY (dQ now)) s).d.y, .int .i64 (form2 (aY (dQ now)) s).d.mo, .int .i64 (form2 (aY (dQ now)) s).d.d, .int .i64 (form2 (aY (dQ now)) s).d.h, .int .i64 (form2 (aY (dQ now)) s).d.mi, .int .i64 (form2 (aY (dQ now)) s).d.se], .int .i64 (form2 (aY (dQ now)) s).week, .bool (form2 (aY (dQ now)) s).ok]) := by
  refine specF0 (C := T_specForm2R) (wr := false) (D := fmD) (U := fun _ => none) (res := [.agg [.int .i64 (form2 (aY (dQ now)) s).d.y, .int .i64 (form2 (aY (dQ now)) s).d.mo, .int .i64 (form2 (aY (dQ now)) s).d.d, .int .i64 (form2 (aY (dQ now)) s).d.h, .int .i64 (form2 (aY (dQ now)) s).d.mi, .int .i64 (form2 (aY (dQ now)) s).d.se], .int .i64 (form2 (aY (dQ now)) s).week, .bool (form2 (aY (dQ now)) s).ok]) Try.Ty.mixed T_specForm2R_ok Try.func49 (nA := 3) (by decide +kernel) rfl (fun _ => rfl) ?_
  simp only [Try.f49, bodyOf, rlOf]
  rw [W_V]
  simp (config := {maxSteps := 2000000}) only [T_specForm2R, Go.Proofs.Try.HdtR.tb_specNumberR, Go.Proofs.Try.HdtR.tb_specTimeR, Go.Proofs.Try.HdtR.tb_specDaysR, Go.Proofs.Try.HdtR.tb_specMonthsR, Go.Proofs.Try.HdtR.tb_specIndexR, Go.Proofs.Try.Civil.tb_specDateR, go_sem, reduceIte, Nat.reduceEqDiff, Nat.reduceAdd, Nat.reduceMul, Nat.reduceDiv, Nat.reduceMod, Nat.reduceSub, Nat.reduceBEq, Nat.reduceLT, Nat.reduceLeDiff, reduceCtorEq, Int.reduceNeg, Int.reduceEq, String.reduceEq, Int.reduceLT, Int.reduceLE, Int.reduceToNat, Int.reduceAdd, Int.reduceMul, Int.reduceSub, fmD]
  (try simp (config := {maxSteps := 2000000}) only [gimp, impB, isT, go_sem, reduceIte, Nat.reduceEqDiff, Nat.reduceAdd, Nat.reduceMul, Nat.reduceDiv, Nat.reduceMod, Nat.reduceSub, Nat.reduceBEq, Nat.reduceLT, Nat.reduceLeDiff, reduceCtorEq, Int.reduceNeg, Int.reduceEq, String.reduceEq, Int.reduceLT, Int.reduceLE, Int.reduceToNat, Int.reduceAdd, Int.reduceMul, Int.reduceSub])
  refine VL_inv (X := Nat) (fun k => fmSt2 s 2 now k) (fun k => k ≤ s.length ∧ (s.take k).any (fun c => c == 44) = false) (fun k => s.length - k) 0 ?_ ?_ ?_
  · simp only [T_specForm2R, Go.Proofs.Try.HdtR.tb_specNumberR, Go.Proofs.Try.HdtR.tb_specTimeR, Go.Proofs.Try.HdtR.tb_specDaysR, Go.Proofs.Try.HdtR.tb_specMonthsR, Go.Proofs.Try.HdtR.tb_specIndexR, Go.Proofs.Try.Civil.tb_specDateR, go_sem, reduceIte, Nat.reduceEqDiff, Nat.reduceAdd, Nat.reduceMul, Nat.reduceDiv, Nat.reduceMod, Nat.reduceSub, Nat.reduceBEq, Nat.reduceLT, Nat.reduceLeDiff, reduceCtorEq, Int.reduceNeg, Int.reduceEq, String.reduceEq, Int.reduceLT, Int.reduceLE, Int.reduceToNat, Int.reduceAdd, Int.reduceMul, Int.reduceSub, fmD, fmSt2, zdt]
    try rfl
  · exact ⟨Nat.zero_le _, by simp⟩
  rintro k ⟨hk, hk2⟩
  unfold fmSt2 zdt
  simp (config := {maxSteps := 2000000}) only [T_specForm2R, Go.Proofs.Try.HdtR.tb_specNumberR, Go.Proofs.Try.HdtR.tb_specTimeR, Go.Proofs.Try.HdtR.tb_specDaysR, Go.Proofs.Try.HdtR.tb_specMonthsR, Go.Proofs.Try.HdtR.tb_specIndexR, Go.Proofs.Try.Civil.tb_specDateR, go_sem, reduceIte, Nat.reduceEqDiff, Nat.reduceAdd, Nat.reduceMul, Nat.reduceDiv, Nat.reduceMod, Nat.reduceSub, Nat.reduceBEq, Nat.reduceLT, Nat.reduceLeDiff, reduceCtorEq, Int.reduceNeg, Int.reduceEq, String.reduceEq, Int.reduceLT, Int.reduceLE, Int.reduceToNat, Int.reduceAdd, Int.reduceMul, Int.reduceSub, fmD]
  (try simp (config := {maxSteps := 2000000}) only [gimp, impB, isT, go_sem, reduceIte, Nat.reduceEqDiff, Nat.reduceAdd, Nat.reduceMul, Nat.reduceDiv, Nat.reduceMod, Nat.reduceSub, Nat.reduceBEq, Nat.reduceLT, Nat.reduceLeDiff, reduceCtorEq, Int.reduceNeg, Int.reduceEq, String.reduceEq, Int.reduceLT, Int.reduceLE, Int.reduceToNat, Int.reduceAdd, Int.reduceMul, Int.reduceSub])
  have hd7 : hdDays.length = 7 := rfl
  have hm12 : hdMonths.length = 12 := rfl
  simp only [m12, d7]
  refine ⟨by omega, fun h1 h2 => ⟨by omega, k + 1, by omega, ⟨by omega, cm_step (by omega) hk2 h2⟩, by omega⟩, fun hx => ?_⟩
  have hcm := cm_at hk hk2 hx
  have hrl : (List.drop k s).length ≤ 1000000 := by rw [List.length_drop]; omega
  have hform : form2 (aY (dQ now)) s = if f2Ok (s.take k) (s.drop k) = true then
    if dtOk (f2D (s.drop k)) = true then
      ⟨tiD (((s.drop k).take 20).drop 12) { f2D (s.drop k) with y := nearI (f2D (s.drop k)).y (aY (dQ now)) }, ixN hdDays (s.take k), tiB (((s.drop k).take 20).drop 12)⟩
    else ⟨f2D (s.drop k), 0, false⟩
    else ⟨dt0, 0, false⟩ := by rw [form2, hcm]
  rw [hform]
  generalize s.drop k = r at *
  generalize s.take k = a at *
  refine ⟨by omega, by omega, by omega, by omega, fun _ _ _ => by omega, fun _ _ _ _ => by omega, fun _ _ _ _ _ => by omega, fun _ _ _ _ _ _ => by omega, fun h => ?_, fun h0 h1 h2 h3 h4 h5 h6 => ?_⟩
  · have hf : ¬ f2Ok a r = true := by
      unfold f2Ok
      simp only [Bool.and_eq_true, decide_eq_true_eq]
      rintro ⟨⟨⟨⟨⟨⟨g0, g1⟩, g2⟩, g3⟩, g4⟩, g5⟩, g6⟩
      rcases h with (((((h | h) | h) | h) | h) | h) | h
      · omega
      · exact h (by omega)
      · exact h g2
      · exact h g3
      · exact h g4
      · exact h g5
      · exact h g6
    rw [if_neg hf]; exact ⟨rfl, rfl, rfl⟩
  have hl : r.length = 24 := by omega
  have hf : f2Ok a r = true := by
    unfold f2Ok
    simp only [Bool.and_eq_true, decide_eq_true_eq]
    exact ⟨⟨⟨⟨⟨⟨h0, hl⟩, h2⟩, h3⟩, h4⟩, h5⟩, h6⟩
  have hr := ix_range hdMonths (List.drop 5 (List.take 8 r))
  rw [if_pos hf]
  have e1 : (f2D r).d = numN (List.drop 2 (List.take 4 r)) := rfl
  have e2 : (f2D r).mo = ixN hdMonths (List.drop 5 (List.take 8 r)) + 1 := rfl
  have e3 : (f2D r).y = numN (List.drop 9 (List.take 11 r)) := rfl
  refine ⟨by omega, ?_, by omega, by omega, by omega, by omega, ?_, fun hb => ?_, fun g1 g2 g3 => ?_⟩
  · rw [List.length_drop, List.length_take]; omega
  · rw [List.length_drop, List.length_take]; omega
  · have hd : ¬ dtOk (f2D r) = true := by
      unfold dtOk
      simp only [Bool.and_eq_true, decide_eq_true_eq, e1, e2, e3]
      omega
    rw [if_neg hd]; exact ⟨rfl, rfl, rfl⟩
  have hd : dtOk (f2D r) = true := by
    unfold dtOk
    simp only [Bool.and_eq_true, decide_eq_true_eq, e1, e2, e3]
    omega
  rw [if_pos hd]
  have hyr := Hdt.aY_range (dQ now)
  have htwo : numN (List.drop 9 (List.take 11 r)) ≤ 99 := num2_le (by rw [List.length_drop, List.length_take]; omega)
  simp only [inR] at hn
  refine ⟨hn, by omega, ?_⟩
  have hne := near_eq (numN (List.drop 9 (List.take 11 r))) (aY (dQ now))
  refine VL_inv (X := Int) (fun y => ⟨[(0, .str r), (6, .ptr 112 0 0 1), (9, .ptr 160 0 0 1), (10, .int .i64 (ixN hdDays a)), (14, .int .i64 y)], [(112, .cells 6 false zdt [zdt]), (160, .cells 6 false zdt [.agg [.int .i64 (numN (List.drop 9 (List.take 11 r))), .int .i64 (ixN hdMonths (List.drop 5 (List.take 8 r)) + 1), .int .i64 (numN (List.drop 2 (List.take 4 r))), .int .i64 0, .int .i64 0, .int .i64 0]])]⟩) (fun y => nearI (numN (List.drop 9 (List.take 11 r))) (aY (dQ now)) ≤ y ∧ y ≤ aY (dQ now) + 50) (fun y => (y - nearI (numN (List.drop 9 (List.take 11 r))) (aY (dQ now))).toNat) (aY (dQ now) + 50) ?_ ?_ ?_
  · simp only [T_specForm2R, Go.Proofs.Try.HdtR.tb_specNumberR, Go.Proofs.Try.HdtR.tb_specTimeR, Go.Proofs.Try.HdtR.tb_specDaysR, Go.Proofs.Try.HdtR.tb_specMonthsR, Go.Proofs.Try.HdtR.tb_specIndexR, Go.Proofs.Try.Civil.tb_specDateR, go_sem, reduceIte, Nat.reduceEqDiff, Nat.reduceAdd, Nat.reduceMul, Nat.reduceDiv, Nat.reduceMod, Nat.reduceSub, Nat.reduceBEq, Nat.reduceLT, Nat.reduceLeDiff, reduceCtorEq, Int.reduceNeg, Int.reduceEq, String.reduceEq, Int.reduceLT, Int.reduceLE, Int.reduceToNat, Int.reduceAdd, Int.reduceMul, Int.reduceSub, fmD, zdt]
    try rfl
  · omega
  rintro y ⟨hy1, hy2⟩
  unfold zdt
  simp (config := {maxSteps := 2000000}) only [T_specForm2R, Go.Proofs.Try.HdtR.tb_specNumberR, Go.Proofs.Try.HdtR.tb_specTimeR, Go.Proofs.Try.HdtR.tb_specDaysR, Go.Proofs.Try.HdtR.tb_specMonthsR, Go.Proofs.Try.HdtR.tb_specIndexR, Go.Proofs.Try.Civil.tb_specDateR, go_sem, reduceIte, Nat.reduceEqDiff, Nat.reduceAdd, Nat.reduceMul, Nat.reduceDiv, Nat.reduceMod, Nat.reduceSub, Nat.reduceBEq, Nat.reduceLT, Nat.reduceLeDiff, reduceCtorEq, Int.reduceNeg, Int.reduceEq, String.reduceEq, Int.reduceLT, Int.reduceLE, Int.reduceToNat, Int.reduceAdd, Int.reduceMul, Int.reduceSub, fmD]
  (try simp (config := {maxSteps := 2000000}) only [gimp, impB, isT, go_sem, reduceIte, Nat.reduceEqDiff, Nat.reduceAdd, Nat.reduceMul, Nat.reduceDiv, Nat.reduceMod, Nat.reduceSub, Nat.reduceBEq, Nat.reduceLT, Nat.reduceLeDiff, reduceCtorEq, Int.reduceNeg, Int.reduceEq, String.reduceEq, Int.reduceLT, Int.reduceLE, Int.reduceToNat, Int.reduceAdd, Int.reduceMul, Int.reduceSub])
  have hrem := Hdt.rem_range (a := y) (b := 100) (by omega)
  rw [mod_pos]
  refine ⟨by omega, fun h => ⟨by omega, y - 1, rfl, by omega, by omega⟩, fun h => ⟨by omega, ?_, ?_⟩⟩
  · rw [List.length_drop, List.length_take]; omega
  · have hyeq : y = nearI (numN (List.drop 9 (List.take 11 r))) (aY (dQ now)) := by omega
    rw [hyeq]; rfl
def tb_specForm2R : List Blk → List AV → Option (List Blk × AV × Prop)
  | [], [.str s, .int .i64 2, .int .i64 now] => some ([], .tuple [.agg [.int .i64 (form2 (aY (dQ now)) s).d.y, .int .i64 (form2 (aY (dQ now)) s).d.mo, .int .i64 (form2 (aY (dQ now)) s).d.d, .int .i64 (form2 (aY (dQ now)) s).d.h, .int .i64 (form2 (aY (dQ now)) s).d.mi, .int .i64 (form2 (aY (dQ now)) s).d.se], .int .i64 (form2 (aY (dQ now)) s).week, .bool (form2 (aY (dQ now)) s).ok], (s.length ≤ 1000000) ∧ (inR .i64 now))
  | _, _ => none
theorem tb_specForm2R_ok : ∀ E args E' res p, tb_specForm2R E args = some (E', res, p) → p → SpecE Try.prog 49 E args E' res := by
  intro E args E' res p h hp
  unfold tb_specForm2R at h
  split at h
  · simp only [Option.some.injEq, Prod.mk.injEq] at h
    obtain ⟨rfl, rfl, rfl⟩ := h
    exact (specForm2R _ _ hp.1 hp.2)
  · cases h

def tb_specFormR : List Blk → List AV → Option (List Blk × AV × Prop)
  | [], [.str s, .int .i64 form, .int .i64 now] => some ([], .tuple [.agg [.int .i64 (formF s form (aY (dQ now))).d.y, .int .i64 (formF s form (aY (dQ now))).d.mo, .int .i64 (formF s form (aY (dQ now))).d.d, .int .i64 (formF s form (aY (dQ now))).d.h, .int .i64 (formF s form (aY (dQ now))).d.mi, .int .i64 (formF s form (aY (dQ now))).d.se], .int .i64 (formF s form (aY (dQ now))).week, .bool (formF s form (aY (dQ now))).ok],
      s.length ≤ 1000000 ∧ inR .i64 now ∧ (form = 1 ∨ form = 2 ∨ form = 3))
  | _, _ => none
theorem tb_specFormR_ok : ∀ E args E' res q, tb_specFormR E args = some (E', res, q) → q → SpecE Try.prog 49 E args E' res := by
  intro E args E' res q h hq
  unfold tb_specFormR at h
  split at h
  · rename_i s form now
    simp only [Option.some.injEq, Prod.mk.injEq] at h
    obtain ⟨rfl, rfl, rfl⟩ := h
    obtain ⟨hs, hn, hf⟩ := hq
    rcases hf with rfl | rfl | rfl
    · exact specForm1R s now hs hn
    · exact specForm2R s now hs hn
    · exact specForm3R s now hs hn
  · cases h

def refFrom (s : List UInt8) (ty : Int) : Nat → Int × Int × Int
  | 0 => refGo s ty
  | 1 => if (form2 ty s).ok = true then fmAns (form2 ty s) 2 else if (form3 s).ok = true then fmAns (form3 s) 3 else (0, 0, 3)
  | 2 => if (form3 s).ok = true then fmAns (form3 s) 3 else (0, 0, 3)
  | _ => (0, 0, 3)
theorem ref_step (s : List UInt8) (ty : Int) {k : Nat} (h : k < 3) : refFrom s ty k = if (formF s ((k : Int) + 1) ty).ok = true then fmAns (formF s ((k : Int) + 1) ty) ((k : Int) + 1) else refFrom s ty (k + 1) := by
  obtain rfl | rfl | rfl : k = 0 ∨ k = 1 ∨ k = 2 := by omega
  · rfl
  · rfl
  · rfl
def T_specParseR : Tbl := fun g E args => (addT (addT (addT (addT nilT 49 Go.Proofs.Try.HdtR.tb_specFormR) 21 Go.Proofs.Try.Civil.tb_specDateR) 50 Go.Proofs.Try.Civil.tb_specSecondsR) 51 Go.Proofs.Try.HdtR.tb_specDayR) g E args
theorem T_specParseR_ok : TblOK Try.prog T_specParseR := (addT_ok (addT_ok (addT_ok (addT_ok nilT_ok (by decide +kernel) Go.Proofs.Try.HdtR.tb_specFormR_ok) (by decide +kernel) Go.Proofs.Try.Civil.tb_specDateR_ok) (by decide +kernel) Go.Proofs.Try.Civil.tb_specSecondsR_ok) (by decide +kernel) Go.Proofs.Try.HdtR.tb_specDayR_ok)
set_option maxRecDepth 100000 in
set_option maxHeartbeats 4000000 in
theorem specParseR (s : List UInt8) (now : Int) (hs : s.length ≤ 1000000) (hn : inR .i64 now) : SpecE Try.prog 15 [] [.str s, .int .i64 now] [] (.tuple [.int .i64 (hdParse s now).1, .int .i64 (hdParse s now).2.1, .int .i64 (hdParse s now).2.2]) := by
  refine specF0 (C := T_specParseR) (wr := false) (D := fun _ => []) (U := fun _ => none) (res := [.int .i64 (hdParse s now).1, .int .i64 (hdParse s now).2.1, .int .i64 (hdParse s now).2.2]) Try.Ty.mixed T_specParseR_ok Try.func15 (nA := 2) (by decide +kernel) rfl (fun _ => rfl) ?_
  simp only [Try.f15, bodyOf, rlOf]
  rw [W_V]
  simp (config := {maxSteps := 2000000}) only [T_specParseR, Go.Proofs.Try.HdtR.tb_specFormR, Go.Proofs.Try.Civil.tb_specDateR, Go.Proofs.Try.Civil.tb_specSecondsR, Go.Proofs.Try.HdtR.tb_specDayR, go_sem, reduceIte, Nat.reduceEqDiff, Nat.reduceAdd, Nat.reduceMul, Nat.reduceDiv, Nat.reduceMod, Nat.reduceSub, Nat.reduceBEq, Nat.reduceLT, Nat.reduceLeDiff, reduceCtorEq, Int.reduceNeg, Int.reduceEq, String.reduceEq, Int.reduceLT, Int.reduceLE, Int.reduceToNat, Int.reduceAdd, Int.reduceMul, Int.reduceSub, dateAV]
  (try simp (config := {maxSteps := 2000000}) only [gimp, impB, isT, go_sem, reduceIte, Nat.reduceEqDiff, Nat.reduceAdd, Nat.reduceMul, Nat.reduceDiv, Nat.reduceMod, Nat.reduceSub, Nat.reduceBEq, Nat.reduceLT, Nat.reduceLeDiff, reduceCtorEq, Int.reduceNeg, Int.reduceEq, String.reduceEq, Int.reduceLT, Int.reduceLE, Int.reduceToNat, Int.reduceAdd, Int.reduceMul, Int.reduceSub])
  simp only [inR] at hn
  refine ⟨hn, fun h => ?_, fun h => ?_⟩
  · rw [hdParse, if_neg (by rw [h]; simp)]; exact ⟨rfl, rfl, rfl⟩
  have hpr : hdParse s now = refFrom s (aY (dQ now)) 0 := by rw [parse_ref, if_pos h]; rfl
  refine VL_inv (X := Nat) (fun k => ⟨[(0, .str s), (1, .int .i64 now), (9, .int .i64 ((k : Int) + 1))], []⟩) (fun k => k ≤ 3 ∧ hdParse s now = refFrom s (aY (dQ now)) k) (fun k => 3 - k) 0 ?_ ?_ ?_
  · simp only [T_specParseR, Go.Proofs.Try.HdtR.tb_specFormR, Go.Proofs.Try.Civil.tb_specDateR, Go.Proofs.Try.Civil.tb_specSecondsR, Go.Proofs.Try.HdtR.tb_specDayR, go_sem, reduceIte, Nat.reduceEqDiff, Nat.reduceAdd, Nat.reduceMul, Nat.reduceDiv, Nat.reduceMod, Nat.reduceSub, Nat.reduceBEq, Nat.reduceLT, Nat.reduceLeDiff, reduceCtorEq, Int.reduceNeg, Int.reduceEq, String.reduceEq, Int.reduceLT, Int.reduceLE, Int.reduceToNat, Int.reduceAdd, Int.reduceMul, Int.reduceSub, dateAV]
    try rfl
  · exact ⟨by omega, hpr⟩
  rintro k ⟨hk, hgo⟩
  simp (config := {maxSteps := 2000000}) only [T_specParseR, Go.Proofs.Try.HdtR.tb_specFormR, Go.Proofs.Try.Civil.tb_specDateR, Go.Proofs.Try.Civil.tb_specSecondsR, Go.Proofs.Try.HdtR.tb_specDayR, go_sem, reduceIte, Nat.reduceEqDiff, Nat.reduceAdd, Nat.reduceMul, Nat.reduceDiv, Nat.reduceMod, Nat.reduceSub, Nat.reduceBEq, Nat.reduceLT, Nat.reduceLeDiff, reduceCtorEq, Int.reduceNeg, Int.reduceEq, String.reduceEq, Int.reduceLT, Int.reduceLE, Int.reduceToNat, Int.reduceAdd, Int.reduceMul, Int.reduceSub, dateAV]
  (try simp (config := {maxSteps := 2000000}) only [gimp, impB, isT, go_sem, reduceIte, Nat.reduceEqDiff, Nat.reduceAdd, Nat.reduceMul, Nat.reduceDiv, Nat.reduceMod, Nat.reduceSub, Nat.reduceBEq, Nat.reduceLT, Nat.reduceLeDiff, reduceCtorEq, Int.reduceNeg, Int.reduceEq, String.reduceEq, Int.reduceLT, Int.reduceLE, Int.reduceToNat, Int.reduceAdd, Int.reduceMul, Int.reduceSub])
  refine ⟨fun h3 => ⟨⟨hs, hn, by omega⟩, fun h0 => ⟨by omega, k + 1, by omega, ⟨by omega, ?_⟩, by omega⟩, fun h0 => ⟨fun hb => ?_, fun hb1 hb2 => ?_⟩⟩, fun h3 => ?_⟩
  · rw [hgo, ref_step s _ (show k < 3 by omega), if_neg (by rw [h0]; simp)]
  · rw [hgo, ref_step s _ (show k < 3 by omega), if_pos h0, fmAns, if_neg]
    · exact ⟨rfl, rfl, rfl⟩
    · unfold fmOk
      simp only [Bool.and_eq_true, decide_eq_true_eq]
      rintro ⟨g1, g2⟩
      rcases hb with hb | hb
      · rw [g1] at hb; cases hb
      · exact hb g2
  · rw [hgo, ref_step s _ (show k < 3 by omega), if_pos h0, fmAns, if_pos]
    · exact ⟨rfl, rfl, rfl⟩
    · unfold fmOk
      simp only [Bool.and_eq_true, decide_eq_true_eq]
      exact ⟨hb1, hb2⟩
  · have : k = 3 := by omega
    rw [hgo, this]; exact ⟨rfl, rfl, rfl⟩
def tb_specParseR : List Blk → List AV → Option (List Blk × AV × Prop)
  | [], [.str s, .int .i64 now] => some ([], .tuple [.int .i64 (hdParse s now).1, .int .i64 (hdParse s now).2.1, .int .i64 (hdParse s now).2.2], (s.length ≤ 1000000) ∧ (inR .i64 now))
  | _, _ => none
theorem tb_specParseR_ok : ∀ E args E' res p, tb_specParseR E args = some (E', res, p) → p → SpecE Try.prog 15 E args E' res := by
  intro E args E' res p h hp
  unfold tb_specParseR at h
  split at h
  · simp only [Option.some.injEq, Prod.mk.injEq] at h
    obtain ⟨rfl, rfl, rfl⟩ := h
    exact (specParseR _ _ hp.1 hp.2)
  · cases h
def T_specPrintR : Tbl := fun g E args => (addT (addT nilT 21 Go.Proofs.Try.Civil.tb_specDateR) 22 Go.Proofs.Try.HdtR.tb_specWriteR) g E args
theorem T_specPrintR_ok : TblOK Try.prog T_specPrintR := (addT_ok (addT_ok nilT_ok (by decide +kernel) Go.Proofs.Try.Civil.tb_specDateR_ok) (by decide +kernel) Go.Proofs.Try.HdtR.tb_specWriteR_ok)
set_option maxRecDepth 100000 in
set_option maxHeartbeats 4000000 in
theorem specPrintR (t : Int) (ht : inR .i64 t) : SpecE Try.prog 20 [] [.int .i64 t] [] (.str (printH t)) := by
  refine specF0 (C := T_specPrintR) (wr := false) (D := fun _ => []) (U := fun _ => none) (res := [.str (printH t)]) Try.Ty.mixed T_specPrintR_ok Try.func20 (nA := 1) (by decide +kernel) rfl (fun _ => rfl) ?_
  simp only [Try.f20, bodyOf, rlOf]
  rw [W_V]
  simp (config := {maxSteps := 2000000}) only [T_specPrintR, Go.Proofs.Try.Civil.tb_specDateR, Go.Proofs.Try.HdtR.tb_specWriteR, go_sem, reduceIte, Nat.reduceEqDiff, Nat.reduceAdd, Nat.reduceMul, Nat.reduceDiv, Nat.reduceMod, Nat.reduceSub, Nat.reduceBEq, Nat.reduceLT, Nat.reduceLeDiff, reduceCtorEq, Int.reduceNeg, Int.reduceEq, String.reduceEq, Int.reduceLT, Int.reduceLE, Int.reduceToNat, Int.reduceAdd, Int.reduceMul, Int.reduceSub, dateAV]
  (try simp (config := {maxSteps := 2000000}) only [gimp, impB, isT, go_sem, reduceIte, Nat.reduceEqDiff, Nat.reduceAdd, Nat.reduceMul, Nat.reduceDiv, Nat.reduceMod, Nat.reduceSub, Nat.reduceBEq, Nat.reduceLT, Nat.reduceLeDiff, reduceCtorEq, Int.reduceNeg, Int.reduceEq, String.reduceEq, Int.reduceLT, Int.reduceLE, Int.reduceToNat, Int.reduceAdd, Int.reduceMul, Int.reduceSub])
  simp only [inR] at ht
  refine ⟨ht, fun h => ?_, fun h => ⟨dtQ_in h, ?_⟩⟩
  · rw [printH, if_neg (by rw [h]; simp)]
  · rw [printH, if_pos h]; rfl
def tb_specPrintR : List Blk → List AV → Option (List Blk × AV × Prop)
  | [], [.int .i64 t] => some ([], .str (printH t), (inR .i64 t))
  | _, _ => none
theorem tb_specPrintR_ok : ∀ E args E' res p, tb_specPrintR E args = some (E', res, p) → p → SpecE Try.prog 20 E args E' res := by
  intro E args E' res p h hp
  unfold tb_specPrintR at h
  split at h
  · simp only [Option.some.injEq, Prod.mk.injEq] at h
    obtain ⟨rfl, rfl, rfl⟩ := h
    exact (specPrintR _ hp)
  · cases h
def T_specFixR : Tbl := fun g E args => (addT (addT nilT 15 Go.Proofs.Try.HdtR.tb_specParseR) 20 Go.Proofs.Try.HdtR.tb_specPrintR) g E args
theorem T_specFixR_ok : TblOK Try.prog T_specFixR := (addT_ok (addT_ok nilT_ok (by decide +kernel) Go.Proofs.Try.HdtR.tb_specParseR_ok) (by decide +kernel) Go.Proofs.Try.HdtR.tb_specPrintR_ok)
set_option maxRecDepth 100000 in
set_option maxHeartbeats 4000000 in
theorem specFixR (s : List UInt8) (now : Int) (hs : s.length ≤ 1000000) (hn : inR .i64 now) : SpecE Try.prog 17 [] [.str s, .int .i64 now] [] (.str (fixH s now)) := by
  refine specF0 (C := T_specFixR) (wr := false) (D := fun _ => []) (U := fun _ => none) (res := [.str (fixH s now)]) Try.Ty.mixed T_specFixR_ok Try.func17 (nA := 2) (by decide +kernel) rfl (fun _ => rfl) ?_
  simp only [Try.f17, bodyOf, rlOf]
  rw [W_V]
  simp (config := {maxSteps := 2000000}) only [T_specFixR, Go.Proofs.Try.HdtR.tb_specParseR, Go.Proofs.Try.HdtR.tb_specPrintR, go_sem, reduceIte, Nat.reduceEqDiff, Nat.reduceAdd, Nat.reduceMul, Nat.reduceDiv, Nat.reduceMod, Nat.reduceSub, Nat.reduceBEq, Nat.reduceLT, Nat.reduceLeDiff, reduceCtorEq, Int.reduceNeg, Int.reduceEq, String.reduceEq, Int.reduceLT, Int.reduceLE, Int.reduceToNat, Int.reduceAdd, Int.reduceMul, Int.reduceSub]
  (try simp (config := {maxSteps := 2000000}) only [gimp, impB, isT, go_sem, reduceIte, Nat.reduceEqDiff, Nat.reduceAdd, Nat.reduceMul, Nat.reduceDiv, Nat.reduceMod, Nat.reduceSub, Nat.reduceBEq, Nat.reduceLT, Nat.reduceLeDiff, reduceCtorEq, Int.reduceNeg, Int.reduceEq, String.reduceEq, Int.reduceLT, Int.reduceLE, Int.reduceToNat, Int.reduceAdd, Int.reduceMul, Int.reduceSub])
  have := parse_range s now
  simp only [inR] at hn
  exact ⟨⟨hs, hn⟩, fun h => by rw [fixH, if_neg h], fun h => ⟨this, by rw [fixH, if_pos h]⟩⟩
def tb_specFixR : List Blk → List AV → Option (List Blk × AV × Prop)
  | [], [.str s, .int .i64 now] => some ([], .str (fixH s now), (s.length ≤ 1000000) ∧ (inR .i64 now))
  | _, _ => none
theorem tb_specFixR_ok : ∀ E args E' res p, tb_specFixR E args = some (E', res, p) → p → SpecE Try.prog 17 E args E' res := by
  intro E args E' res p h hp
  unfold tb_specFixR at h
  split at h
  · simp only [Option.some.injEq, Prod.mk.injEq] at h
    obtain ⟨rfl, rfl, rfl⟩ := h
    exact (specFixR _ _ hp.1 hp.2)
  · cases h
end Go.Proofs.Try.HdtR
