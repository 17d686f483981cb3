/- httpdate: Print, Fix. No condition beyond those that a machine's numbers bring. -/
import Derived.Test.YtnfidlgiaaeleaaHdtG
import Derived.Test.YtnfidlgiaaeleaaDigB
set_option linter.unusedVariables false
set_option linter.unusedSimpArgs false
namespace Go.Proofs.Try.Hdt
open Go Go.Abs Go.Proofs Go.Mdl Go.Proofs.Try.Civil

def rune1 (k : Nat) : Int × Nat := (((hdPat1.getD k 0).toNat : Int), 1)
theorem rune_at : ∀ k, k < 12 → runeAt hdPat1 k = (((hdPat1.getD k 0).toNat : Int), 1) := by decide
theorem fix_snoc (d : Dt) (w : Int) {k : Nat} (h : k < 12) : fixS d w (hdPat1.take (k + 1)) = fixS d w (hdPat1.take k) ++ pieceS d w (hdPat1.getD k 0) := by
  have : hdPat1.length = 12 := rfl
  unfold fixS
  rw [take_succ_getD 0 (by omega), List.map_append, List.flatten_append]; simp

theorem all_map_str {l : List (List UInt8)} {p : AV → Bool} (h : ∀ s, p (.str s) = true) : (l.map AV.str).all p = true := by
  rw [List.all_eq_true]
  intro x hx
  obtain ⟨s, -, rfl⟩ := List.mem_map.1 hx
  exact h s
theorem enc_at : ∀ k, k < 12 → (Utf8.encode (((hdPat1.getD k 0).toNat : Int))).data.toList = [hdPat1.getD k 0] := by decide
theorem padL_le (n w : Int) : (padS n w).length ≤ 100 := by
  have h := textI_len n
  unfold padS
  split
  · omega
  · rw [List.length_append, List.length_replicate]; omega
theorem mon_le (n : Nat) : (hdMonths.getD n []).length ≤ 3 := by
  by_cases h : n < 12
  · rw [(month_cases h).2.1]; exact Nat.le_refl _
  · rw [List.getD_eq_getElem?_getD, List.getElem?_eq_none]
    · simp
    · show 12 ≤ n; omega
theorem piece_le (d : Dt) (w : Int) (c : UInt8) : (pieceS d w c).length ≤ 302 := by
  have h1 := padL_le d.h 2
  have h2 := padL_le d.mi 2
  have h3 := padL_le d.se 2
  have h4 := padL_le d.d 2
  have h5 := padL_le d.y 4
  have h6 := mon_le (d.mo - 1).toNat
  unfold pieceS
  (repeat' split) <;> (try simp only [clkS, List.length_append, List.length_cons, List.length_nil, List.length_take]) <;> omega
theorem fixS_le (d : Dt) (w : Int) (l : List UInt8) : (fixS d w l).length ≤ 302 * l.length := by
  unfold fixS
  induction l with
  | nil => simp
  | cons c t ih =>
    have := piece_le d w c
    rw [List.map_cons, List.flatten_cons, List.length_append, List.length_cons]
    omega
theorem rune_is {c : UInt8} {n : Nat} (hn : n < 256) (h : ((c.toNat : Nat) : Int) = (n : Int)) : c = UInt8.ofNat n := by
  have : c.toNat = n := by omega
  rw [← this]; simp
theorem rune_not {c : UInt8} {n : Nat} (hn : n < 256) (h : ¬ ((c.toNat : Nat) : Int) = (n : Int)) : ¬ c = UInt8.ofNat n := by
  intro e; apply h
  rw [e]
  simp
  omega
theorem dIn_range (t v : Int) (h : 0 ≤ v ∧ v ≤ 1000000) : 0 ≤ dIn t v ∧ dIn t v ≤ 1000000 := by unfold dIn; split <;> omega
def T_specPrintH : Tbl := fun g E args => (addT (addT (addT (addT (addT (addT (addT nilT 42 Go.Proofs.Try.Civil.tb_specDate) 47 Go.Proofs.Try.Civil.tb_pDays) 48 Go.Proofs.Try.Civil.tb_pWeekday) 43 Go.Proofs.Try.Hdt.tb_specPatternsH) 52 Go.Proofs.Try.Hdt.tb_specDaysH) 54 Go.Proofs.Try.Hdt.tb_specMonthsH) 53 Go.Proofs.Try.Dig.tb_specPad) g E args
theorem T_specPrintH_ok : TblOK Try.prog T_specPrintH := (addT_ok (addT_ok (addT_ok (addT_ok (addT_ok (addT_ok (addT_ok nilT_ok (by decide +kernel) Go.Proofs.Try.Civil.tb_specDate_ok) (by decide +kernel) Go.Proofs.Try.Civil.tb_pDays_ok) (by decide +kernel) Go.Proofs.Try.Civil.tb_pWeekday_ok) (by decide +kernel) Go.Proofs.Try.Hdt.tb_specPatternsH_ok) (by decide +kernel) Go.Proofs.Try.Hdt.tb_specDaysH_ok) (by decide +kernel) Go.Proofs.Try.Hdt.tb_specMonthsH_ok) (by decide +kernel) Go.Proofs.Try.Dig.tb_specPad_ok)
set_option maxRecDepth 100000 in
set_option maxHeartbeats 4000000 in
theorem specPrintH (t : Int) (ht : inR .i64 t) : SpecE Try.prog 19 [] [.int .i64 t] [] (.str (printH t)) := by
  refine specF0 (C := T_specPrintH) (wr := false) (D := fun _ => []) (U := fun _ => none) (res := [.str (printH t)]) Try.Ty.mixed T_specPrintH_ok Try.func19 (nA := 1) (by decide +kernel) rfl (fun _ => rfl) ?_
  simp only [Try.f19, bodyOf, rlOf]
  rw [W_V]
  simp (config := {maxSteps := 2000000}) only [T_specPrintH, Go.Proofs.Try.Civil.tb_specDate, Go.Proofs.Try.Civil.tb_pDays, Go.Proofs.Try.Civil.tb_pWeekday, Go.Proofs.Try.Hdt.tb_specPatternsH, Go.Proofs.Try.Hdt.tb_specDaysH, Go.Proofs.Try.Hdt.tb_specMonthsH, Go.Proofs.Try.Dig.tb_specPad, go_sem, reduceIte, Nat.reduceEqDiff, Nat.reduceAdd, Nat.reduceMul, Nat.reduceDiv, Nat.reduceMod, Nat.reduceSub, Nat.reduceBEq, Nat.reduceLT, Nat.reduceLeDiff, reduceCtorEq, Int.reduceNeg, Int.reduceEq, String.reduceEq, Int.reduceLT, Int.reduceLE, Int.reduceToNat, Int.reduceAdd, Int.reduceMul, Int.reduceSub, dateAV, all_map_str]
  (try simp (config := {maxSteps := 2000000}) only [gimp, impB, isT, go_sem, reduceIte, Nat.reduceEqDiff, Nat.reduceAdd, Nat.reduceMul, Nat.reduceDiv, Nat.reduceMod, Nat.reduceSub, Nat.reduceBEq, Nat.reduceLT, Nat.reduceLeDiff, reduceCtorEq, Int.reduceNeg, Int.reduceEq, String.reduceEq, Int.reduceLT, Int.reduceLE, Int.reduceToNat, Int.reduceAdd, Int.reduceMul, Int.reduceSub])
  simp only [inR] at ht
  refine ⟨ht, fun h => by rw [printH, if_neg (by rw [h]; simp)], fun h => ?_⟩
  refine VL_inv (X := Nat) (fun k => ⟨[(3, .ptr 64 0 0 1), (5, .int .i64 (dayAns (aY (dQ t)) (aM (dQ t)) (aD (dQ t)))), (7, .str (fixS (dtQ t) (wdD (dtQ t)) (hdPat1.take k))), (29, .it 480)], [(64, .cells 6 false (.agg [.int .i64 0, .int .i64 0, .int .i64 0, .int .i64 0, .int .i64 0, .int .i64 0]) [.agg [.int .i64 (aY (dQ t)), .int .i64 (aM (dQ t)), .int .i64 (aD (dQ t)), .int .i64 (dIn t (dR t / 3600)), .int .i64 (dIn t (dR t / 60 % 60)), .int .i64 (dIn t (dR t % 60))]]), (480, .iter hdPat1 k)]⟩) (fun k => k ≤ 12) (fun k => 12 - k) 0 ?_ ?_ ?_
  · simp only [T_specPrintH, Go.Proofs.Try.Civil.tb_specDate, Go.Proofs.Try.Civil.tb_pDays, Go.Proofs.Try.Civil.tb_pWeekday, Go.Proofs.Try.Hdt.tb_specPatternsH, Go.Proofs.Try.Hdt.tb_specDaysH, Go.Proofs.Try.Hdt.tb_specMonthsH, Go.Proofs.Try.Dig.tb_specPad, go_sem, reduceIte, Nat.reduceEqDiff, Nat.reduceAdd, Nat.reduceMul, Nat.reduceDiv, Nat.reduceMod, Nat.reduceSub, Nat.reduceBEq, Nat.reduceLT, Nat.reduceLeDiff, reduceCtorEq, Int.reduceNeg, Int.reduceEq, String.reduceEq, Int.reduceLT, Int.reduceLE, Int.reduceToNat, Int.reduceAdd, Int.reduceMul, Int.reduceSub, dateAV, all_map_str, List.take_zero, fixS, List.map_nil, List.flatten_nil]
    try rfl
  · omega
  rintro k hk
  simp (config := {maxSteps := 2000000}) only [T_specPrintH, Go.Proofs.Try.Civil.tb_specDate, Go.Proofs.Try.Civil.tb_pDays, Go.Proofs.Try.Civil.tb_pWeekday, Go.Proofs.Try.Hdt.tb_specPatternsH, Go.Proofs.Try.Hdt.tb_specDaysH, Go.Proofs.Try.Hdt.tb_specMonthsH, Go.Proofs.Try.Dig.tb_specPad, go_sem, reduceIte, Nat.reduceEqDiff, Nat.reduceAdd, Nat.reduceMul, Nat.reduceDiv, Nat.reduceMod, Nat.reduceSub, Nat.reduceBEq, Nat.reduceLT, Nat.reduceLeDiff, reduceCtorEq, Int.reduceNeg, Int.reduceEq, String.reduceEq, Int.reduceLT, Int.reduceLE, Int.reduceToNat, Int.reduceAdd, Int.reduceMul, Int.reduceSub, dateAV, all_map_str]
  (try simp (config := {maxSteps := 2000000}) only [gimp, impB, isT, go_sem, reduceIte, Nat.reduceEqDiff, Nat.reduceAdd, Nat.reduceMul, Nat.reduceDiv, Nat.reduceMod, Nat.reduceSub, Nat.reduceBEq, Nat.reduceLT, Nat.reduceLeDiff, reduceCtorEq, Int.reduceNeg, Int.reduceEq, String.reduceEq, Int.reduceLT, Int.reduceLE, Int.reduceToNat, Int.reduceAdd, Int.reduceMul, Int.reduceSub])
  have l12 : hdPat1.length = 12 := rfl
  have l7 : hdDays.length = 7 := rfl
  have lm : hdMonths.length = 12 := rfl
  obtain ⟨hw, hy, hmo, hd, hh, hmi, hse⟩ := dtQ_in h
  have hw' : 0 ≤ weekday (dayAns (aY (dQ t)) (aM (dQ t)) (aD (dQ t))) ∧ weekday (dayAns (aY (dQ t)) (aM (dQ t)) (aD (dQ t))) < 7 := hw
  have ey : (dtQ t).y = aY (dQ t) := rfl
  have em : (dtQ t).mo = aM (dQ t) := rfl
  have ed : (dtQ t).d = aD (dQ t) := rfl
  have eh : (dtQ t).h = dIn t (dR t / 3600) := rfl
  have emi : (dtQ t).mi = dIn t (dR t / 60 % 60) := rfl
  have es : (dtQ t).se = dIn t (dR t % 60) := rfl
  rw [ey] at hy
  rw [em] at hmo
  rw [ed] at hd
  rw [eh] at hh
  rw [emi] at hmi
  rw [es] at hse
  have hlen : (fixS (dtQ t) (wdD (dtQ t)) (List.take k hdPat1)).length ≤ 3624 := by
    have := fixS_le (dtQ t) (wdD (dtQ t)) (List.take k hdPat1)
    rw [List.length_take] at this
    omega
  rw [l12]
  refine ⟨fun hlt => ?_, fun hge => ?_⟩
  rotate_left
  · have : k = 12 := by omega
    subst this
    rw [printH, if_pos h, show List.take 12 hdPat1 = hdPat1 from rfl, fix_write]
  have hs := fix_snoc (dtQ t) (wdD (dtQ t)) hlt
  have g1 := (day_cases (k := (weekday (dayAns (aY (dQ t)) (aM (dQ t)) (aD (dQ t)))).toNat) (by omega)).2.2.2.2.2.1
  have p1 := padL_le (aD (dQ t)) 2
  have p2 := padL_le (aY (dQ t)) 4
  have p3 := padL_le (dIn t (dR t / 3600)) 2
  have p4 := padL_le (dIn t (dR t / 60 % 60)) 2
  have p5 := padL_le (dIn t (dR t % 60)) 2
  have p6 := mon_le (aM (dQ t) - 1).toNat
  have he := enc_at k hlt
  simp only [rune_at k hlt, if_pos hlt, he, l7, lm]
  generalize hdPat1.getD k 0 = c at *
  have fin : ∀ X : List UInt8, X = pieceS (dtQ t) (wdD (dtQ t)) c → ∃ x' : Nat, (fixS (dtQ t) (wdD (dtQ t)) (List.take k hdPat1) ++ X = fixS (dtQ t) (wdD (dtQ t)) (List.take x' hdPat1) ∧ k + 1 = x') ∧ x' ≤ 12 ∧ 12 - x' < 12 - k := by
    rintro X rfl
    exact ⟨k + 1, ⟨hs.symm, rfl⟩, by omega, by omega⟩
  refine ⟨hlt, fun h1 => ?_, fun h1 => ⟨fun h2 => ?_, fun h2 => ⟨fun h3 => ?_, fun h3 => ⟨fun h4 => ?_, fun h4 => ⟨fun h5 => ?_, fun h5 => ⟨fun h6 => ?_, fun h6 => ?_⟩⟩⟩⟩⟩⟩
  · obtain rfl := rune_is (n := 119) (by omega) h1
    refine ⟨by (try simp only [and_true]); omega, by omega, by rw [List.length_take]; omega, fin _ rfl⟩
  · obtain rfl := rune_is (n := 100) (by omega) h2
    exact ⟨by omega, by omega, fin _ rfl⟩
  · obtain rfl := rune_is (n := 109) (by omega) h3
    exact ⟨by omega, by (try simp only [and_true]); omega, by omega, fin _ rfl⟩
  · obtain rfl := rune_is (n := 121) (by omega) h4
    exact ⟨by omega, by omega, fin _ rfl⟩
  · obtain rfl := rune_is (n := 116) (by omega) h5
    refine ⟨by omega, by omega, by omega, ?_, ?_, by omega, ?_, ?_, fin _ ?_⟩
    · simp only [List.length_append, List.length_cons, List.length_nil]; omega
    · simp only [List.length_append, List.length_cons, List.length_nil]; omega
    · simp only [List.length_append, List.length_cons, List.length_nil]; omega
    · simp only [List.length_append, List.length_cons, List.length_nil]; omega
    · show _ = clkS (dtQ t)
      unfold clkS
      rw [eh, emi, es]
      simp only [List.append_assoc, List.cons_append, List.nil_append]
  · obtain rfl := rune_is (n := 122) (by omega) h6
    exact ⟨by omega, fin _ rfl⟩
  · have q1 : ¬ c = 119 := rune_not (n := 119) (by omega) h1
    have q2 : ¬ c = 100 := rune_not (n := 100) (by omega) h2
    have q3 : ¬ c = 109 := rune_not (n := 109) (by omega) h3
    have q4 : ¬ c = 121 := rune_not (n := 121) (by omega) h4
    have q5 : ¬ c = 116 := rune_not (n := 116) (by omega) h5
    have q6 : ¬ c = 122 := rune_not (n := 122) (by omega) h6
    refine ⟨by simp only [List.length_cons, List.length_nil]; omega, fin _ ?_⟩
    unfold pieceS
    rw [if_neg q1, if_neg q2, if_neg q3, if_neg q4, if_neg q5, if_neg q6]
def tb_specPrintH : List Blk → List AV → Option (List Blk × AV × Prop)
  | [], [.int .i64 t] => some ([], .str (printH t), (inR .i64 t))
  | _, _ => none
theorem tb_specPrintH_ok : ∀ E args E' res p, tb_specPrintH E args = some (E', res, p) → p → SpecE Try.prog 19 E args E' res := by
  intro E args E' res p h hp
  unfold tb_specPrintH at h
  split at h
  · simp only [Option.some.injEq, Prod.mk.injEq] at h
    obtain ⟨rfl, rfl, rfl⟩ := h
    exact (specPrintH _ hp)
  · cases h
def T_specFixH : Tbl := fun g E args => (addT (addT nilT 14 Go.Proofs.Try.Hdt.tb_specParseH) 19 Go.Proofs.Try.Hdt.tb_specPrintH) g E args
theorem T_specFixH_ok : TblOK Try.prog T_specFixH := (addT_ok (addT_ok nilT_ok (by decide +kernel) Go.Proofs.Try.Hdt.tb_specParseH_ok) (by decide +kernel) Go.Proofs.Try.Hdt.tb_specPrintH_ok)
set_option maxRecDepth 100000 in
set_option maxHeartbeats 4000000 in
theorem specFixH (s : List UInt8) (now : Int) (hs : s.length ≤ 1000000) (hn : inR .i64 now) : SpecE Try.prog 16 [] [.str s, .int .i64 now] [] (.str (fixH s now)) := by
  refine specF0 (C := T_specFixH) (wr := false) (D := fun _ => []) (U := fun _ => none) (res := [.str (fixH s now)]) Try.Ty.mixed T_specFixH_ok Try.func16 (nA := 2) (by decide +kernel) rfl (fun _ => rfl) ?_
  simp only [Try.f16, bodyOf, rlOf]
  rw [W_V]
  simp (config := {maxSteps := 2000000}) only [T_specFixH, Go.Proofs.Try.Hdt.tb_specParseH, Go.Proofs.Try.Hdt.tb_specPrintH, go_sem, reduceIte, Nat.reduceEqDiff, Nat.reduceAdd, Nat.reduceMul, Nat.reduceDiv, Nat.reduceMod, Nat.reduceSub, Nat.reduceBEq, Nat.reduceLT, Nat.reduceLeDiff, reduceCtorEq, Int.reduceNeg, Int.reduceEq, String.reduceEq, Int.reduceLT, Int.reduceLE, Int.reduceToNat, Int.reduceAdd, Int.reduceMul, Int.reduceSub]
  (try simp (config := {maxSteps := 2000000}) only [gimp, impB, isT, go_sem, reduceIte, Nat.reduceEqDiff, Nat.reduceAdd, Nat.reduceMul, Nat.reduceDiv, Nat.reduceMod, Nat.reduceSub, Nat.reduceBEq, Nat.reduceLT, Nat.reduceLeDiff, reduceCtorEq, Int.reduceNeg, Int.reduceEq, String.reduceEq, Int.reduceLT, Int.reduceLE, Int.reduceToNat, Int.reduceAdd, Int.reduceMul, Int.reduceSub])
  have := parse_range s now
  simp only [inR] at hn
  exact ⟨⟨hs, hn⟩, fun h => by rw [fixH, if_neg h], fun h => ⟨this, by rw [fixH, if_pos h]⟩⟩
def tb_specFixH : List Blk → List AV → Option (List Blk × AV × Prop)
  | [], [.str s, .int .i64 now] => some ([], .str (fixH s now), (s.length ≤ 1000000) ∧ (inR .i64 now))
  | _, _ => none
theorem tb_specFixH_ok : ∀ E args E' res p, tb_specFixH E args = some (E', res, p) → p → SpecE Try.prog 16 E args E' res := by
  intro E args E' res p h hp
  unfold tb_specFixH at h
  split at h
  · simp only [Option.some.injEq, Prod.mk.injEq] at h
    obtain ⟨rfl, rfl, rfl⟩ := h
    exact (specFixH _ _ hp.1 hp.2)
  · cases h
end Go.Proofs.Try.Hdt
