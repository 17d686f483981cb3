import Derived.Test.YtlkfjkimnkhelaaGreatShCG
section
set_option linter.unusedVariables false
set_option linter.unusedSimpArgs false
namespace Go.Proofs.Tryz.HdtR
open Go Go.Abs Go.Proofs Go.Mdl Go.Proofs.Tryz.Civil Go.Proofs.Tryz.Hdt
def fmSt2 (s : List UInt8) (form now : Int) (k : Nat) : St := ⟨[(0, .str s), (1, .int .i64 form), (2, .int .i64 now), (6, .ptr 112 0 0 1), (7, .int .i64 0), (8, .bool false), (9, .ptr 160 0 0 1), (10, .int .i64 (-1)), (11, .int .i64 k)],
  [(112, .cells 6 false zdt [zdt]), (160, .cells 6 false zdt [zdt])]⟩
theorem cm_at {s : List UInt8} {k : Nat} (hk : k ≤ s.length) (hn : (s.take k).any (fun c => c == 44) = false) (he : (decide ((k : Int) < (s.length : Int)) && !decide (s.getD k 0 = 44)) = false) : cmI s = k := by
  simp only [Bool.and_eq_false_iff, decide_eq_false_iff_not, Bool.not_eq_false', decide_eq_true_eq] at he
  unfold cmI
  have hnone : ∀ j, j < k → ¬ (s.getD j 0 == 44) = true := by
    intro j hj h
    have := any_hit (p := fun c => c == 44) (l := s.take k) (k := j) 0 (by rw [List.length_take]; omega) (by
      rw [List.getD_eq_getElem?_getD, List.getElem?_take_of_lt hj, ← List.getD_eq_getElem?_getD]; exact h)
    rw [this] at hn; cases hn
  by_cases hlt : k < s.length
  · have h44 : s.getD k 0 = 44 := by rcases he with h | h; omega; exact h
    rw [List.findIdx_eq hlt]
    refine ⟨?_, fun j hj => ?_⟩
    · have : s[k] = s.getD k 0 := by rw [List.getD_eq_getElem?_getD, List.getElem?_eq_getElem hlt]; rfl
      rw [this, h44]; rfl
    · have hjl : j < s.length := by omega
      have : s[j] = s.getD j 0 := by rw [List.getD_eq_getElem?_getD, List.getElem?_eq_getElem hjl]; rfl
      have h := hnone j hj
      rw [← this] at h
      simpa using h
  · have : k = s.length := by omega
    rw [this, List.findIdx_eq_length]
    rw [this, List.take_length] at hn
    intro x hx
    rw [← Bool.not_eq_true]
    intro h
    rw [List.any_eq_false] at hn
    exact hn x hx h
theorem cm_step {s : List UInt8} {k : Nat} (hk : k < s.length) (hn : (s.take k).any (fun c => c == 44) = false) (h : ¬ s.getD k 0 = 44) : (s.take (k + 1)).any (fun c => c == 44) = false := by
  rw [any_take_succ 0 hk hn]
  simpa using h
theorem d7 : List.take 7 hdDays = hdDays := rfl
theorem dig_le {c : UInt8} (h : isDig 10 c = true) : digB c ≤ 9 := by rw [isDig_iff] at h; omega
theorem num2_le {x : List UInt8} (h : x.length ≤ 2) : numN x ≤ 99 := by
  unfold numN numVal
  split
  · rename_i he
    unfold numErr at he
    split at he
    · cases he
    split at he
    · rename_i ha
      rcases x with _ | ⟨a, _ | ⟨b, _ | ⟨c, t⟩⟩⟩
      · simp [numV]
      · simp only [List.all_cons, List.all_nil, Bool.and_true] at ha
        have := dig_le ha
        simp [numV]; omega
      · simp only [List.all_cons, List.all_nil, Bool.and_true, Bool.and_eq_true] at ha
        have := dig_le ha.1
        have := dig_le ha.2
        simp [numV]; omega
      · simp at h
    · cases he
  · omega
theorem mod_pos (a : Int) : (a.tmod 100 + 100).tmod 100 = a % 100 := by
  rcases Int.le_total 0 a with h | h
  · rw [Int.tmod_eq_emod_of_nonneg h, Int.tmod_eq_emod_of_nonneg (by omega)]; omega
  · have : a.tmod 100 = -((-a) % 100) := by
      have := Int.neg_tmod (-a) 100
      rw [Int.neg_neg] at this
      rw [this, Int.tmod_eq_emod_of_nonneg (by omega)]
    rw [this, Int.tmod_eq_emod_of_nonneg (by omega)]; omega
theorem near_eq (two x : Int) : nearI two x = x + 50 - (x + 50 - two) % 100 := by unfold nearI; rw [mod_pos]
def T_specForm2R : Tbl := fun g E args => (addT (addT (addT (addT (addT (addT nilT 199 Go.Proofs.Tryz.HdtR.tb_specNumberR) 200 Go.Proofs.Tryz.HdtR.tb_specTimeR) 179 Go.Proofs.Tryz.HdtR.tb_specDaysR) 180 Go.Proofs.Tryz.HdtR.tb_specMonthsR) 198 Go.Proofs.Tryz.HdtR.tb_specIndexR) 145 Go.Proofs.Tryz.Civil.tb_specDateR) g E args
theorem T_specForm2R_ok : TblOK Tryz.prog T_specForm2R := (addT_ok (addT_ok (addT_ok (addT_ok (addT_ok (addT_ok nilT_ok (by decide +kernel) Go.Proofs.Tryz.HdtR.tb_specNumberR_ok) (by decide +kernel) Go.Proofs.Tryz.HdtR.tb_specTimeR_ok) (by decide +kernel) Go.Proofs.Tryz.HdtR.tb_specDaysR_ok) (by decide +kernel) Go.Proofs.Tryz.HdtR.tb_specMonthsR_ok) (by decide +kernel) Go.Proofs.Tryz.HdtR.tb_specIndexR_ok) (by decide +kernel) Go.Proofs.Tryz.Civil.tb_specDateR_ok)
set_option maxRecDepth 100000 in
set_option maxHeartbeats 4000000 in
theorem specForm2R (s : List UInt8) (now : Int) (hs : s.length ≤ 1000000) (hn : inR .i64 now) : SpecE Tryz.prog 175 [] [.str s, .int .i64 2, .int .i64 now] [] (.tuple [.agg [.int .i64 (form2 (aY (dQ now)) s).d.y, .int .i64 (form2 (aY (dQ now)) s).d.mo, .int .i64 (form2 (aY (dQ now)) s).d.d, .int .i64 (form2 (aY (dQ now)) s).d.h, .int .i64 (form2 (aY (dQ now)) s).d.mi, .int .i64 (form2 (aY (dQ now)) s).d.se], .int .i64 (form2 (aY (dQ now)) s).week, .bool (form2 (aY (dQ now)) s).ok]) := by
  refine specF0 (C := T_specForm2R) (wr := false) (D := fmD) (U := fun _ => none) (res := [.agg [.int .i64 (form2 (aY (dQ now)) s).d.y, .int .i64 (form2 (aY (dQ now)) s).d.mo, .int .i64 (form2 (aY (dQ now)) s).d.d, .int .i64 (form2 (aY (dQ now)) s).d.h, .int .i64 (form2 (aY (dQ now)) s).d.mi, .int .i64 (form2 (aY (dQ now)) s).d.se], .int .i64 (form2 (aY (dQ now)) s).week, .bool (form2 (aY (dQ now)) s).ok]) Tryz.Ty.mixed T_specForm2R_ok Tryz.func175 (nA := 3) (by decide +kernel) rfl (fun _ => rfl) ?_
  simp only [Tryz.f175, bodyOf, rlOf]
  rw [W_V]
  simp (config := {maxSteps := 2000000}) only [T_specForm2R, Go.Proofs.Tryz.HdtR.tb_specNumberR, Go.Proofs.Tryz.HdtR.tb_specTimeR, Go.Proofs.Tryz.HdtR.tb_specDaysR, Go.Proofs.Tryz.HdtR.tb_specMonthsR, Go.Proofs.Tryz.HdtR.tb_specIndexR, Go.Proofs.Tryz.Civil.tb_specDateR, go_sem, seval, fmD]
  (try simp (config := {maxSteps := 2000000}) only [gimp, impB, isT, go_sem, seval])
  refine VL_inv (X := Nat) (fun k => fmSt2 s 2 now k) (fun k => k ≤ s.length ∧ (s.take k).any (fun c => c == 44) = false) (fun k => s.length - k) 0 ?_ ?_ ?_
  · simp only [T_specForm2R, Go.Proofs.Tryz.HdtR.tb_specNumberR, Go.Proofs.Tryz.HdtR.tb_specTimeR, Go.Proofs.Tryz.HdtR.tb_specDaysR, Go.Proofs.Tryz.HdtR.tb_specMonthsR, Go.Proofs.Tryz.HdtR.tb_specIndexR, Go.Proofs.Tryz.Civil.tb_specDateR, go_sem, seval, fmD, fmSt2, zdt]
    try rfl
  · exact ⟨Nat.zero_le _, by simp⟩
  rintro k ⟨hk, hk2⟩
  unfold fmSt2 zdt
  simp (config := {maxSteps := 2000000}) only [T_specForm2R, Go.Proofs.Tryz.HdtR.tb_specNumberR, Go.Proofs.Tryz.HdtR.tb_specTimeR, Go.Proofs.Tryz.HdtR.tb_specDaysR, Go.Proofs.Tryz.HdtR.tb_specMonthsR, Go.Proofs.Tryz.HdtR.tb_specIndexR, Go.Proofs.Tryz.Civil.tb_specDateR, go_sem, seval, fmD]
  (try simp (config := {maxSteps := 2000000}) only [gimp, impB, isT, go_sem, seval])
  have hd7 : hdDays.length = 7 := rfl
  have hm12 : hdMonths.length = 12 := rfl
  simp only [m12, d7]
  refine ⟨by omega, fun h1 h2 => ⟨by omega, k + 1, by omega, ⟨by omega, cm_step (by omega) hk2 h2⟩, by omega⟩, fun hx => ?_⟩
  have hcm := cm_at hk hk2 hx
  have hrl : (List.drop k s).length ≤ 1000000 := by rw [List.length_drop]; omega
  have hform : form2 (aY (dQ now)) s = if f2Ok (s.take k) (s.drop k) = true then
    if dtOk (f2D (s.drop k)) = true then
      ⟨tiD (((s.drop k).take 20).drop 12) { f2D (s.drop k) with y := nearI (f2D (s.drop k)).y (aY (dQ now)) }, ixN hdDays (s.take k), tiB (((s.drop k).take 20).drop 12)⟩
    else ⟨f2D (s.drop k), 0, false⟩
    else ⟨dt0, 0, false⟩ := by rw [form2, hcm]
  rw [hform]
  generalize s.drop k = r at *
  generalize s.take k = a at *
  refine ⟨by omega, by omega, by omega, by omega, fun _ _ _ => by omega, fun _ _ _ _ => by omega, fun _ _ _ _ _ => by omega, fun _ _ _ _ _ _ => by omega, fun h => ?_, fun h0 h1 h2 h3 h4 h5 h6 => ?_⟩
  · have hf : ¬ f2Ok a r = true := by
      unfold f2Ok
      simp only [Bool.and_eq_true, decide_eq_true_eq]
      rintro ⟨⟨⟨⟨⟨⟨g0, g1⟩, g2⟩, g3⟩, g4⟩, g5⟩, g6⟩
      rcases h with (((((h | h) | h) | h) | h) | h) | h
      · omega
      · exact h (by omega)
      · exact h g2
      · exact h g3
      · exact h g4
      · exact h g5
      · exact h g6
    rw [if_neg hf]; exact ⟨rfl, rfl, rfl⟩
  have hl : r.length = 24 := by omega
  have hf : f2Ok a r = true := by
    unfold f2Ok
    simp only [Bool.and_eq_true, decide_eq_true_eq]
    exact ⟨⟨⟨⟨⟨⟨h0, hl⟩, h2⟩, h3⟩, h4⟩, h5⟩, h6⟩
  have hr := ix_range hdMonths (List.drop 5 (List.take 8 r))
  rw [if_pos hf]
  have e1 : (f2D r).d = numN (List.drop 2 (List.take 4 r)) := rfl
  have e2 : (f2D r).mo = ixN hdMonths (List.drop 5 (List.take 8 r)) + 1 := rfl
  have e3 : (f2D r).y = numN (List.drop 9 (List.take 11 r)) := rfl
  refine ⟨by omega, ?_, by omega, by omega, by omega, by omega, ?_, fun hb => ?_, fun g1 g2 g3 => ?_⟩
  · rw [List.length_drop, List.length_take]; omega
  · rw [List.length_drop, List.length_take]; omega
  · have hd : ¬ dtOk (f2D r) = true := by
      unfold dtOk
      simp only [Bool.and_eq_true, decide_eq_true_eq, e1, e2, e3]
      omega
    rw [if_neg hd]; exact ⟨rfl, rfl, rfl⟩
  have hd : dtOk (f2D r) = true := by
    unfold dtOk
    simp only [Bool.and_eq_true, decide_eq_true_eq, e1, e2, e3]
    omega
  rw [if_pos hd]
  have hyr := Hdt.aY_range (dQ now)
  have htwo : numN (List.drop 9 (List.take 11 r)) ≤ 99 := num2_le (by rw [List.length_drop, List.length_take]; omega)
  simp only [inR] at hn
  refine ⟨hn, by omega, ?_⟩
  have hne := near_eq (numN (List.drop 9 (List.take 11 r))) (aY (dQ now))
  refine VL_inv (X := Int) (fun y => ⟨[(0, .str r), (6, .ptr 112 0 0 1), (9, .ptr 160 0 0 1), (10, .int .i64 (ixN hdDays a)), (14, .int .i64 y)], [(112, .cells 6 false zdt [zdt]), (160, .cells 6 false zdt [.agg [.int .i64 (numN (List.drop 9 (List.take 11 r))), .int .i64 (ixN hdMonths (List.drop 5 (List.take 8 r)) + 1), .int .i64 (numN (List.drop 2 (List.take 4 r))), .int .i64 0, .int .i64 0, .int .i64 0]])]⟩) (fun y => nearI (numN (List.drop 9 (List.take 11 r))) (aY (dQ now)) ≤ y ∧ y ≤ aY (dQ now) + 50) (fun y => (y - nearI (numN (List.drop 9 (List.take 11 r))) (aY (dQ now))).toNat) (aY (dQ now) + 50) ?_ ?_ ?_
  · simp only [T_specForm2R, Go.Proofs.Tryz.HdtR.tb_specNumberR, Go.Proofs.Tryz.HdtR.tb_specTimeR, Go.Proofs.Tryz.HdtR.tb_specDaysR, Go.Proofs.Tryz.HdtR.tb_specMonthsR, Go.Proofs.Tryz.HdtR.tb_specIndexR, Go.Proofs.Tryz.Civil.tb_specDateR, go_sem, seval, fmD, zdt]
    try rfl
  · omega
  rintro y ⟨hy1, hy2⟩
  unfold zdt
  simp (config := {maxSteps := 2000000}) only [T_specForm2R, Go.Proofs.Tryz.HdtR.tb_specNumberR, Go.Proofs.Tryz.HdtR.tb_specTimeR, Go.Proofs.Tryz.HdtR.tb_specDaysR, Go.Proofs.Tryz.HdtR.tb_specMonthsR, Go.Proofs.Tryz.HdtR.tb_specIndexR, Go.Proofs.Tryz.Civil.tb_specDateR, go_sem, seval, fmD]
  (try simp (config := {maxSteps := 2000000}) only [gimp, impB, isT, go_sem, seval])
  have hrem := Hdt.rem_range (a := y) (b := 100) (by omega)
  rw [mod_pos]
  refine ⟨by omega, fun h => ⟨by omega, y - 1, rfl, by omega, by omega⟩, fun h => ⟨by omega, ?_, ?_⟩⟩
  · rw [List.length_drop, List.length_take]; omega
  · have hyeq : y = nearI (numN (List.drop 9 (List.take 11 r))) (aY (dQ now)) := by omega
    rw [hyeq]; rfl
def tb_specFormR : List Blk → List AV → Option (List Blk × AV × Prop)
  | [], [.str s, .int .i64 form, .int .i64 now] => some ([], .tuple [.agg [.int .i64 (formF s form (aY (dQ now))).d.y, .int .i64 (formF s form (aY (dQ now))).d.mo, .int .i64 (formF s form (aY (dQ now))).d.d, .int .i64 (formF s form (aY (dQ now))).d.h, .int .i64 (formF s form (aY (dQ now))).d.mi, .int .i64 (formF s form (aY (dQ now))).d.se], .int .i64 (formF s form (aY (dQ now))).week, .bool (formF s form (aY (dQ now))).ok],
      s.length ≤ 1000000 ∧ inR .i64 now ∧ (form = 1 ∨ form = 2 ∨ form = 3))
  | _, _ => none
theorem tb_specFormR_ok : ∀ E args E' res q, tb_specFormR E args = some (E', res, q) → q → SpecE Tryz.prog 175 E args E' res := by
  intro E args E' res q h hq
  unfold tb_specFormR at h
  split at h
  · rename_i s form now
    simp only [Option.some.injEq, Prod.mk.injEq] at h
    obtain ⟨rfl, rfl, rfl⟩ := h
    obtain ⟨hs, hn, hf⟩ := hq
    rcases hf with rfl | rfl | rfl
    · exact specForm1R s now hs hn
    · exact specForm2R s now hs hn
    · exact specForm3R s now hs hn
  · cases h
def refFrom (s : List UInt8) (ty : Int) : Nat → Int × Int × Int
  | 0 => refGo s ty
  | 1 => if (form2 ty s).ok = true then fmAns (form2 ty s) 2 else if (form3 s).ok = true then fmAns (form3 s) 3 else (0, 0, 3)
  | 2 => if (form3 s).ok = true then fmAns (form3 s) 3 else (0, 0, 3)
  | _ => (0, 0, 3)
theorem ref_step (s : List UInt8) (ty : Int) {k : Nat} (h : k < 3) : refFrom s ty k = if (formF s ((k : Int) + 1) ty).ok = true then fmAns (formF s ((k : Int) + 1) ty) ((k : Int) + 1) else refFrom s ty (k + 1) := by
  obtain rfl | rfl | rfl : k = 0 ∨ k = 1 ∨ k = 2 := by omega
  · rfl
  · rfl
  · rfl
def T_specParseR : Tbl := fun g E args => (addT (addT (addT (addT nilT 175 Go.Proofs.Tryz.HdtR.tb_specFormR) 145 Go.Proofs.Tryz.Civil.tb_specDateR) 176 Go.Proofs.Tryz.Civil.tb_specSecondsR) 177 Go.Proofs.Tryz.HdtR.tb_specDayR) g E args
theorem T_specParseR_ok : TblOK Tryz.prog T_specParseR := (addT_ok (addT_ok (addT_ok (addT_ok nilT_ok (by decide +kernel) Go.Proofs.Tryz.HdtR.tb_specFormR_ok) (by decide +kernel) Go.Proofs.Tryz.Civil.tb_specDateR_ok) (by decide +kernel) Go.Proofs.Tryz.Civil.tb_specSecondsR_ok) (by decide +kernel) Go.Proofs.Tryz.HdtR.tb_specDayR_ok)
set_option maxRecDepth 100000 in
set_option maxHeartbeats 4000000 in
theorem specParseR (s : List UInt8) (now : Int) (hs : s.length ≤ 1000000) (hn : inR .i64 now) : SpecE Tryz.prog 144 [] [.str s, .int .i64 now] [] (.tuple [.int .i64 (hdParse s now).1, .int .i64 (hdParse s now).2.1, .int .i64 (hdParse s now).2.2]) := by
  refine specF0 (C := T_specParseR) (wr := false) (D := fun _ => []) (U := fun _ => none) (res := [.int .i64 (hdParse s now).1, .int .i64 (hdParse s now).2.1, .int .i64 (hdParse s now).2.2]) Tryz.Ty.mixed T_specParseR_ok Tryz.func144 (nA := 2) (by decide +kernel) rfl (fun _ => rfl) ?_
  simp only [Tryz.f144, bodyOf, rlOf]
  rw [W_V]
  simp (config := {maxSteps := 2000000}) only [T_specParseR, Go.Proofs.Tryz.HdtR.tb_specFormR, Go.Proofs.Tryz.Civil.tb_specDateR, Go.Proofs.Tryz.Civil.tb_specSecondsR, Go.Proofs.Tryz.HdtR.tb_specDayR, go_sem, seval, dateAV]
  (try simp (config := {maxSteps := 2000000}) only [gimp, impB, isT, go_sem, seval])
  simp only [inR] at hn
  refine ⟨hn, fun h => ?_, fun h => ?_⟩
  · rw [hdParse, if_neg (by rw [h]; simp)]; exact ⟨rfl, rfl, rfl⟩
  have hpr : hdParse s now = refFrom s (aY (dQ now)) 0 := by rw [parse_ref, if_pos h]; rfl
  refine VL_inv (X := Nat) (fun k => ⟨[(0, .str s), (1, .int .i64 now), (9, .int .i64 ((k : Int) + 1))], []⟩) (fun k => k ≤ 3 ∧ hdParse s now = refFrom s (aY (dQ now)) k) (fun k => 3 - k) 0 ?_ ?_ ?_
  · simp only [T_specParseR, Go.Proofs.Tryz.HdtR.tb_specFormR, Go.Proofs.Tryz.Civil.tb_specDateR, Go.Proofs.Tryz.Civil.tb_specSecondsR, Go.Proofs.Tryz.HdtR.tb_specDayR, go_sem, seval, dateAV]
    try rfl
  · exact ⟨by omega, hpr⟩
  rintro k ⟨hk, hgo⟩
  simp (config := {maxSteps := 2000000}) only [T_specParseR, Go.Proofs.Tryz.HdtR.tb_specFormR, Go.Proofs.Tryz.Civil.tb_specDateR, Go.Proofs.Tryz.Civil.tb_specSecondsR, Go.Proofs.Tryz.HdtR.tb_specDayR, go_sem, seval, dateAV]
  (try simp (config := {maxSteps := 2000000}) only [gimp, impB, isT, go_sem, seval])
  refine ⟨fun h3 => ⟨⟨hs, hn, by omega⟩, fun h0 => ⟨by omega, k + 1, by omega, ⟨by omega, ?_⟩, by omega⟩, fun h0 => ⟨fun hb => ?_, fun hb1 hb2 => ?_⟩⟩, fun h3 => ?_⟩
  · rw [hgo, ref_step s _ (show k < 3 by omega), if_neg (by rw [h0]; simp)]
  · rw [hgo, ref_step s _ (show k < 3 by omega), if_pos h0, fmAns, if_neg]
    · exact ⟨rfl, rfl, rfl⟩
    · unfold fmOk
      simp only [Bool.and_eq_true, decide_eq_true_eq]
      rintro ⟨g1, g2⟩
      rcases hb with hb | hb
      · rw [g1] at hb; cases hb
      · exact hb g2
  · rw [hgo, ref_step s _ (show k < 3 by omega), if_pos h0, fmAns, if_pos]
    · exact ⟨rfl, rfl, rfl⟩
    · unfold fmOk
      simp only [Bool.and_eq_true, decide_eq_true_eq]
      exact ⟨hb1, hb2⟩
  · have : k = 3 := by omega
    rw [hgo, this]; exact ⟨rfl, rfl, rfl⟩
def tb_specParseR : List Blk → List AV → Option (List Blk × AV × Prop)
  | [], [.str s, .int .i64 now] => some ([], .tuple [.int .i64 (hdParse s now).1, .int .i64 (hdParse s now).2.1, .int .i64 (hdParse s now).2.2], (s.length ≤ 1000000) ∧ (inR .i64 now))
  | _, _ => none
theorem tb_specParseR_ok : ∀ E args E' res p, tb_specParseR E args = some (E', res, p) → p → SpecE Tryz.prog 144 E args E' res := by
  intro E args E' res p h hp
  unfold tb_specParseR at h
  split at h
  · simp only [Option.some.injEq, Prod.mk.injEq] at h
    obtain ⟨rfl, rfl, rfl⟩ := h
    exact (specParseR _ _ hp.1 hp.2)
  · cases h
def T_specPrintR : Tbl := fun g E args => (addT (addT nilT 145 Go.Proofs.Tryz.Civil.tb_specDateR) 146 Go.Proofs.Tryz.HdtR.tb_specWriteR) g E args
theorem T_specPrintR_ok : TblOK Tryz.prog T_specPrintR := (addT_ok (addT_ok nilT_ok (by decide +kernel) Go.Proofs.Tryz.Civil.tb_specDateR_ok) (by decide +kernel) Go.Proofs.Tryz.HdtR.tb_specWriteR_ok)
set_option maxRecDepth 100000 in
set_option maxHeartbeats 4000000 in
theorem specPrintR (t : Int) (ht : inR .i64 t) : SpecE Tryz.prog 101 [] [.int .i64 t] [] (.str (printH t)) := by
  refine specF0 (C := T_specPrintR) (wr := false) (D := fun _ => []) (U := fun _ => none) (res := [.str (printH t)]) Tryz.Ty.mixed T_specPrintR_ok Tryz.func101 (nA := 1) (by decide +kernel) rfl (fun _ => rfl) ?_
  simp only [Tryz.f101, bodyOf, rlOf]
  rw [W_V]
  simp (config := {maxSteps := 2000000}) only [T_specPrintR, Go.Proofs.Tryz.Civil.tb_specDateR, Go.Proofs.Tryz.HdtR.tb_specWriteR, go_sem, seval, dateAV]
  (try simp (config := {maxSteps := 2000000}) only [gimp, impB, isT, go_sem, seval])
  simp only [inR] at ht
  refine ⟨ht, fun h => ?_, fun h => ⟨dtQ_in h, ?_⟩⟩
  · rw [printH, if_neg (by rw [h]; simp)]
  · rw [printH, if_pos h]; rfl
def tb_specPrintR : List Blk → List AV → Option (List Blk × AV × Prop)
  | [], [.int .i64 t] => some ([], .str (printH t), (inR .i64 t))
  | _, _ => none
theorem tb_specPrintR_ok : ∀ E args E' res p, tb_specPrintR E args = some (E', res, p) → p → SpecE Tryz.prog 101 E args E' res := by
  intro E args E' res p h hp
  unfold tb_specPrintR at h
  split at h
  · simp only [Option.some.injEq, Prod.mk.injEq] at h
    obtain ⟨rfl, rfl, rfl⟩ := h
    exact (specPrintR _ hp)
  · cases h
end Go.Proofs.Tryz.HdtR
end
section
set_option linter.unusedVariables false
set_option linter.unusedSimpArgs false
namespace Go.Proofs.Tryz.Hdt
open Go Go.Abs Go.Proofs Go.Mdl Go.Proofs.Tryz.Civil
theorem rune_at : ∀ k, k < 12 → runeAt hdPat1 k = (((hdPat1.getD k 0).toNat : Int), 1) := by decide
theorem fix_snoc (d : Dt) (w : Int) {k : Nat} (h : k < 12) : fixS d w (hdPat1.take (k + 1)) = fixS d w (hdPat1.take k) ++ pieceS d w (hdPat1.getD k 0) := by
  have : hdPat1.length = 12 := rfl
  unfold fixS
  rw [take_succ_getD 0 (by omega), List.map_append, List.flatten_append]; simp
theorem all_map_str {l : List (List UInt8)} {p : AV → Bool} (h : ∀ s, p (.str s) = true) : (l.map AV.str).all p = true := by
  rw [List.all_eq_true]
  intro x hx
  obtain ⟨s, -, rfl⟩ := List.mem_map.1 hx
  exact h s
theorem enc_at : ∀ k, k < 12 → (Utf8.encode (((hdPat1.getD k 0).toNat : Int))).data.toList = [hdPat1.getD k 0] := by decide
theorem padL_le (n w : Int) : (padS n w).length ≤ 100 := by
  have h := textI_len n
  unfold padS
  split
  · omega
  · rw [List.length_append, List.length_replicate]; omega
theorem mon_le (n : Nat) : (hdMonths.getD n []).length ≤ 3 := by
  by_cases h : n < 12
  · rw [(month_cases h).2.1]; exact Nat.le_refl _
  · rw [List.getD_eq_getElem?_getD, List.getElem?_eq_none]
    · simp
    · show 12 ≤ n; omega
theorem piece_le (d : Dt) (w : Int) (c : UInt8) : (pieceS d w c).length ≤ 302 := by
  have h1 := padL_le d.h 2
  have h2 := padL_le d.mi 2
  have h3 := padL_le d.se 2
  have h4 := padL_le d.d 2
  have h5 := padL_le d.y 4
  have h6 := mon_le (d.mo - 1).toNat
  unfold pieceS
  (repeat' split) <;> (try simp only [clkS, List.length_append, List.length_cons, List.length_nil, List.length_take]) <;> omega
theorem fixS_le (d : Dt) (w : Int) (l : List UInt8) : (fixS d w l).length ≤ 302 * l.length := by
  unfold fixS
  induction l with
  | nil => simp
  | cons c t ih =>
    have := piece_le d w c
    rw [List.map_cons, List.flatten_cons, List.length_append, List.length_cons]
    omega
theorem rune_is {c : UInt8} {n : Nat} (hn : n < 256) (h : ((c.toNat : Nat) : Int) = (n : Int)) : c = UInt8.ofNat n := by
  have : c.toNat = n := by omega
  rw [← this]; simp
theorem rune_not {c : UInt8} {n : Nat} (hn : n < 256) (h : ¬ ((c.toNat : Nat) : Int) = (n : Int)) : ¬ c = UInt8.ofNat n := by
  intro e; apply h
  rw [e]
  simp
  omega
def T_specPrintH : Tbl := fun g E args => (addT (addT (addT (addT (addT (addT (addT nilT 135 Go.Proofs.Tryz.Civil.tb_specDate) 136 Go.Proofs.Tryz.Civil.tb_pDays) 139 Go.Proofs.Tryz.Civil.tb_pWeekday) 137 Go.Proofs.Tryz.Hdt.tb_specPatternsH) 138 Go.Proofs.Tryz.Hdt.tb_specDaysH) 141 Go.Proofs.Tryz.Hdt.tb_specMonthsH) 140 Go.Proofs.Tryz.Dig.tb_specPad) g E args
theorem T_specPrintH_ok : TblOK Tryz.prog T_specPrintH := (addT_ok (addT_ok (addT_ok (addT_ok (addT_ok (addT_ok (addT_ok nilT_ok (by decide +kernel) Go.Proofs.Tryz.Civil.tb_specDate_ok) (by decide +kernel) Go.Proofs.Tryz.Civil.tb_pDays_ok) (by decide +kernel) Go.Proofs.Tryz.Civil.tb_pWeekday_ok) (by decide +kernel) Go.Proofs.Tryz.Hdt.tb_specPatternsH_ok) (by decide +kernel) Go.Proofs.Tryz.Hdt.tb_specDaysH_ok) (by decide +kernel) Go.Proofs.Tryz.Hdt.tb_specMonthsH_ok) (by decide +kernel) Go.Proofs.Tryz.Dig.tb_specPad_ok)
set_option maxRecDepth 100000 in
set_option maxHeartbeats 4000000 in
theorem specPrintH (t : Int) (ht : inR .i64 t) : SpecE Tryz.prog 97 [] [.int .i64 t] [] (.str (printH t)) := by
  refine specF0 (C := T_specPrintH) (wr := false) (D := fun _ => []) (U := fun _ => none) (res := [.str (printH t)]) Tryz.Ty.mixed T_specPrintH_ok Tryz.func97 (nA := 1) (by decide +kernel) rfl (fun _ => rfl) ?_
  simp only [Tryz.f97, bodyOf, rlOf]
  rw [W_V]
  simp (config := {maxSteps := 2000000}) only [T_specPrintH, Go.Proofs.Tryz.Civil.tb_specDate, Go.Proofs.Tryz.Civil.tb_pDays, Go.Proofs.Tryz.Civil.tb_pWeekday, Go.Proofs.Tryz.Hdt.tb_specPatternsH, Go.Proofs.Tryz.Hdt.tb_specDaysH, Go.Proofs.Tryz.Hdt.tb_specMonthsH, Go.Proofs.Tryz.Dig.tb_specPad, go_sem, seval, dateAV, all_map_str]
  (try simp (config := {maxSteps := 2000000}) only [gimp, impB, isT, go_sem, seval])
  simp only [inR] at ht
  refine ⟨ht, fun h => by rw [printH, if_neg (by rw [h]; simp)], fun h => ?_⟩
  refine VL_inv (X := Nat) (fun k => ⟨[(3, .ptr 64 0 0 1), (5, .int .i64 (dayAns (aY (dQ t)) (aM (dQ t)) (aD (dQ t)))), (7, .str (fixS (dtQ t) (wdD (dtQ t)) (hdPat1.take k))), (29, .it 480)], [(64, .cells 6 false (.agg [.int .i64 0, .int .i64 0, .int .i64 0, .int .i64 0, .int .i64 0, .int .i64 0]) [.agg [.int .i64 (aY (dQ t)), .int .i64 (aM (dQ t)), .int .i64 (aD (dQ t)), .int .i64 (dIn t (dR t / 3600)), .int .i64 (dIn t (dR t / 60 % 60)), .int .i64 (dIn t (dR t % 60))]]), (480, .iter hdPat1 k)]⟩) (fun k => k ≤ 12) (fun k => 12 - k) 0 ?_ ?_ ?_
  · simp only [T_specPrintH, Go.Proofs.Tryz.Civil.tb_specDate, Go.Proofs.Tryz.Civil.tb_pDays, Go.Proofs.Tryz.Civil.tb_pWeekday, Go.Proofs.Tryz.Hdt.tb_specPatternsH, Go.Proofs.Tryz.Hdt.tb_specDaysH, Go.Proofs.Tryz.Hdt.tb_specMonthsH, Go.Proofs.Tryz.Dig.tb_specPad, go_sem, seval, dateAV, all_map_str, List.take_zero, fixS, List.map_nil, List.flatten_nil]
    try rfl
  · omega
  rintro k hk
  simp (config := {maxSteps := 2000000}) only [T_specPrintH, Go.Proofs.Tryz.Civil.tb_specDate, Go.Proofs.Tryz.Civil.tb_pDays, Go.Proofs.Tryz.Civil.tb_pWeekday, Go.Proofs.Tryz.Hdt.tb_specPatternsH, Go.Proofs.Tryz.Hdt.tb_specDaysH, Go.Proofs.Tryz.Hdt.tb_specMonthsH, Go.Proofs.Tryz.Dig.tb_specPad, go_sem, seval, dateAV, all_map_str]
  (try simp (config := {maxSteps := 2000000}) only [gimp, impB, isT, go_sem, seval])
  have l12 : hdPat1.length = 12 := rfl
  have l7 : hdDays.length = 7 := rfl
  have lm : hdMonths.length = 12 := rfl
  obtain ⟨hw, hy, hmo, hd, hh, hmi, hse⟩ := dtQ_in h
  have hw' : 0 ≤ weekday (dayAns (aY (dQ t)) (aM (dQ t)) (aD (dQ t))) ∧ weekday (dayAns (aY (dQ t)) (aM (dQ t)) (aD (dQ t))) < 7 := hw
  have ey : (dtQ t).y = aY (dQ t) := rfl
  have em : (dtQ t).mo = aM (dQ t) := rfl
  have ed : (dtQ t).d = aD (dQ t) := rfl
  have eh : (dtQ t).h = dIn t (dR t / 3600) := rfl
  have emi : (dtQ t).mi = dIn t (dR t / 60 % 60) := rfl
  have es : (dtQ t).se = dIn t (dR t % 60) := rfl
  rw [ey] at hy
  rw [em] at hmo
  rw [ed] at hd
  rw [eh] at hh
  rw [emi] at hmi
  rw [es] at hse
  have hlen : (fixS (dtQ t) (wdD (dtQ t)) (List.take k hdPat1)).length ≤ 3624 := by
    have := fixS_le (dtQ t) (wdD (dtQ t)) (List.take k hdPat1)
    rw [List.length_take] at this
    omega
  rw [l12]
  refine ⟨fun hlt => ?_, fun hge => ?_⟩
  rotate_left
  · have : k = 12 := by omega
    subst this
    rw [printH, if_pos h, show List.take 12 hdPat1 = hdPat1 from rfl, fix_write]
  have hs := fix_snoc (dtQ t) (wdD (dtQ t)) hlt
  have g1 := (day_cases (k := (weekday (dayAns (aY (dQ t)) (aM (dQ t)) (aD (dQ t)))).toNat) (by omega)).2.2.2.2.2.1
  have p1 := padL_le (aD (dQ t)) 2
  have p2 := padL_le (aY (dQ t)) 4
  have p3 := padL_le (dIn t (dR t / 3600)) 2
  have p4 := padL_le (dIn t (dR t / 60 % 60)) 2
  have p5 := padL_le (dIn t (dR t % 60)) 2
  have p6 := mon_le (aM (dQ t) - 1).toNat
  have he := enc_at k hlt
  simp only [rune_at k hlt, if_pos hlt, he, l7, lm]
  generalize hdPat1.getD k 0 = c at *
  have fin : ∀ X : List UInt8, X = pieceS (dtQ t) (wdD (dtQ t)) c → ∃ x' : Nat, (fixS (dtQ t) (wdD (dtQ t)) (List.take k hdPat1) ++ X = fixS (dtQ t) (wdD (dtQ t)) (List.take x' hdPat1) ∧ k + 1 = x') ∧ x' ≤ 12 ∧ 12 - x' < 12 - k := by
    rintro X rfl
    exact ⟨k + 1, ⟨hs.symm, rfl⟩, by omega, by omega⟩
  refine ⟨hlt, fun h1 => ?_, fun h1 => ⟨fun h2 => ?_, fun h2 => ⟨fun h3 => ?_, fun h3 => ⟨fun h4 => ?_, fun h4 => ⟨fun h5 => ?_, fun h5 => ⟨fun h6 => ?_, fun h6 => ?_⟩⟩⟩⟩⟩⟩
  · obtain rfl := rune_is (n := 119) (by omega) h1
    refine ⟨by (try simp only [and_true]); omega, by omega, by rw [List.length_take]; omega, fin _ rfl⟩
  · obtain rfl := rune_is (n := 100) (by omega) h2
    exact ⟨by omega, by omega, fin _ rfl⟩
  · obtain rfl := rune_is (n := 109) (by omega) h3
    exact ⟨by omega, by (try simp only [and_true]); omega, by omega, fin _ rfl⟩
  · obtain rfl := rune_is (n := 121) (by omega) h4
    exact ⟨by omega, by omega, fin _ rfl⟩
  · obtain rfl := rune_is (n := 116) (by omega) h5
    refine ⟨by omega, by omega, by omega, ?_, ?_, by omega, ?_, ?_, fin _ ?_⟩
    · simp only [List.length_append, List.length_cons, List.length_nil]; omega
    · simp only [List.length_append, List.length_cons, List.length_nil]; omega
    · simp only [List.length_append, List.length_cons, List.length_nil]; omega
    · simp only [List.length_append, List.length_cons, List.length_nil]; omega
    · show _ = clkS (dtQ t)
      unfold clkS
      rw [eh, emi, es]
      simp only [List.append_assoc, List.cons_append, List.nil_append]
  · obtain rfl := rune_is (n := 122) (by omega) h6
    exact ⟨by omega, fin _ rfl⟩
  · have q1 : ¬ c = 119 := rune_not (n := 119) (by omega) h1
    have q2 : ¬ c = 100 := rune_not (n := 100) (by omega) h2
    have q3 : ¬ c = 109 := rune_not (n := 109) (by omega) h3
    have q4 : ¬ c = 121 := rune_not (n := 121) (by omega) h4
    have q5 : ¬ c = 116 := rune_not (n := 116) (by omega) h5
    have q6 : ¬ c = 122 := rune_not (n := 122) (by omega) h6
    refine ⟨by simp only [List.length_cons, List.length_nil]; omega, fin _ ?_⟩
    unfold pieceS
    rw [if_neg q1, if_neg q2, if_neg q3, if_neg q4, if_neg q5, if_neg q6]
def tb_specPrintH : List Blk → List AV → Option (List Blk × AV × Prop)
  | [], [.int .i64 t] => some ([], .str (printH t), (inR .i64 t))
  | _, _ => none
theorem tb_specPrintH_ok : ∀ E args E' res p, tb_specPrintH E args = some (E', res, p) → p → SpecE Tryz.prog 97 E args E' res := by
  intro E args E' res p h hp
  unfold tb_specPrintH at h
  split at h
  · simp only [Option.some.injEq, Prod.mk.injEq] at h
    obtain ⟨rfl, rfl, rfl⟩ := h
    exact (specPrintH _ hp)
  · cases h
end Go.Proofs.Tryz.Hdt
end
section
set_option linter.unusedVariables false
set_option linter.unusedSimpArgs false
namespace Go.Proofs.Tryz.HdtR
open Go Go.Abs Go.Proofs Go.Mdl Go.Proofs.Tryz.Civil Go.Proofs.Tryz.Hdt
theorem day_le (n : Nat) : (hdDays.getD n []).length ≤ 9 := by
  by_cases h : n < 7
  · have : ∀ n, n < 7 → (hdDays.getD n []).length ≤ 9 := by decide
    exact this n h
  · rw [List.getD_eq_getElem?_getD, List.getElem?_eq_none]
    · simp
    · show 7 ≤ n; omega
end Go.Proofs.Tryz.HdtR
end
section
set_option linter.unusedVariables false
set_option linter.unusedSimpArgs false
namespace Go.Proofs.Tryz.Cfx
open Go Go.Abs Go.Proofs Go.Mdl Go.Proofs.Tryz.Civil Go.Proofs.Tryz.Hdt
theorem and_no {p q : Prop} [Decidable p] [Decidable q] (h : (decide p && decide q) = false) : ¬ (p ∧ q) := by
  rintro ⟨h1, h2⟩; simp [h1, h2] at h
theorem get_len {l : List Fld} {n : List UInt8} (hq : ∀ f ∈ l, f.2.length ≤ 900) : (getS l n).length ≤ 900 := by
  have h : ∀ x ∈ allS l n, x.length ≤ 900 := by
    intro x hx
    simp only [allS, List.mem_map] at hx
    obtain ⟨f, hf, rfl⟩ := hx
    exact hq f (List.mem_filter.1 hf).1
  rw [getS]
  cases hc : allS l n with
  | nil => simp
  | cons a r => exact h a (by rw [hc]; exact List.mem_cons_self)
theorem num_range (s : List UInt8) : 0 ≤ numVal 10 2147483647 s ∧ numVal 10 2147483647 s ≤ 2147483647 := by
  unfold numVal
  split
  · rename_i h
    unfold numErr at h
    split at h
    · cases h
    · split at h
      · rename_i h1
        split at h
        · cases h
        · exact ⟨numV_nonneg (by omega) _ h1, by omega⟩
      · cases h
  · omega
theorem age_range (l : List Fld) : 0 ≤ ageN l ∧ ageN l ≤ 2147483647 := by
  unfold ageN
  split
  · split
    · omega
    · exact num_range _
  · omega
theorem dateN_range (l : List Fld) (n : List UInt8) (now : Int) : -1000000000000 ≤ dateN l n now ∧ dateN l n now ≤ 253402300799 := parse_small _ _
theorem till_late {base age : Int} (h : 253402300799 < base) (ha : 0 ≤ age) : tillS false base age = [] := by
  rw [tillS, if_neg (by simp)]
  split
  · rfl
  · exact print_late (by omega)
theorem till_soon {base age : Int} (h : base ≤ 253402300799) : tillS false base age = printH (base + age) := by
  rw [tillS, if_neg (by simp), if_neg (by omega)]
theorem till_back {base age : Int} : tillS true base age = printH base := by rw [tillS, if_pos rfl]
theorem m13 : (13 : Nat) ≤ maxLen := by decide
def T_specAdd : Tbl := fun g E args => (addT (addT nilT 29 Go.Proofs.Tryz.Hdr.tb_specCount) 36 Go.Proofs.Tryz.Hdr.tb_specWith) g E args
theorem T_specAdd_ok : TblOK Tryz.prog T_specAdd := (addT_ok (addT_ok nilT_ok (by decide +kernel) Go.Proofs.Tryz.Hdr.tb_specCount_ok) (by decide +kernel) Go.Proofs.Tryz.Hdr.tb_specWith_ok)
set_option maxRecDepth 100000 in
set_option maxHeartbeats 4000000 in
theorem specAdd (l : List Fld) (n v : List UInt8) (is : Bool) (hl : l.length ≤ 1000) (hn : n.length ≤ maxLen) : SpecE Tryz.prog 52 [] [enc_flds l, .str n, .str v, .bool is] [] (enc_flds (addF l n v is)) := by
  refine specF0 (C := T_specAdd) (wr := false) (D := fun _ => []) (U := fun _ => none) (res := [enc_flds (addF l n v is)]) Tryz.Ty.mixed T_specAdd_ok Tryz.func52 (nA := 4) (by decide +kernel) rfl (fun _ => rfl) ?_
  simp only [Tryz.f52, bodyOf, rlOf]
  rw [W_V]
  simp (config := {maxSteps := 2000000}) only [T_specAdd, Go.Proofs.Tryz.Hdr.tb_specCount, Go.Proofs.Tryz.Hdr.tb_specWith, go_sem, seval]
  (try simp (config := {maxSteps := 2000000}) only [gimp, impB, isT, go_sem, seval])
  refine ⟨⟨fun _ _ => hl, fun _ _ => hn⟩, fun h => ?_, fun h1 h2 h3 => ⟨by omega, ?_⟩⟩
  · rw [addF, if_neg]
    rintro ⟨g1, g2, g3⟩
    rcases h with (h | h) | h
    · rw [g1] at h; cases h
    · exact g2 h
    · rw [g3] at h; simp at h
  · have h4 : allS l n = [] := List.eq_nil_of_length_eq_zero (by omega)
    rw [List.take_length, addF, if_pos ⟨h1, h2, h4⟩]
def tb_specAdd : List Blk → List AV → Option (List Blk × AV × Prop)
  | [], [a0, .str n, .str v, .bool is] => some ([], enc_flds (addF (dec_flds a0) n v is), ((dec_flds a0).length ≤ 1000) ∧ (n.length ≤ maxLen) ∧ argOK a0 (enc_flds (dec_flds a0)))
  | _, _ => none
theorem tb_specAdd_ok : ∀ E args E' res p, tb_specAdd E args = some (E', res, p) → p → SpecE Tryz.prog 52 E args E' res := by
  intro E args E' res p h hp
  unfold tb_specAdd at h
  split at h
  · simp only [Option.some.injEq, Prod.mk.injEq] at h
    obtain ⟨rfl, rfl, rfl⟩ := h
    exact SpecE.args (specAdd _ _ _ _ hp.1 hp.2.1) (.cons hp.2.2 (.cons (argOK.refl _) (.cons (argOK.refl _) (.cons (argOK.refl _) .nil))))
  · cases h
def T_specReq : Tbl := fun g E args => (addT (addT (addT nilT 52 Go.Proofs.Tryz.Cfx.tb_specAdd) 53 Go.Proofs.Tryz.Cac.tb_specPragma) 54 Go.Proofs.Tryz.Cac.tb_specHas) g E args
theorem T_specReq_ok : TblOK Tryz.prog T_specReq := (addT_ok (addT_ok (addT_ok nilT_ok (by decide +kernel) Go.Proofs.Tryz.Cfx.tb_specAdd_ok) (by decide +kernel) Go.Proofs.Tryz.Cac.tb_specPragma_ok) (by decide +kernel) Go.Proofs.Tryz.Cac.tb_specHas_ok)
set_option maxRecDepth 100000 in
set_option maxHeartbeats 4000000 in
theorem specReq (l : List Fld) (a b : Int) (hl : l.length ≤ 999) (hq : ∀ f ∈ l, f.2.length ≤ 900) : SpecE Tryz.prog 25 [] [enc_flds l, .int .i64 a, .int .i64 b] [] (enc_flds (cfxReq l a b)) := by
  refine specF0 (C := T_specReq) (wr := false) (D := fun _ => []) (U := fun _ => none) (res := [enc_flds (cfxReq l a b)]) Tryz.Ty.mixed T_specReq_ok Tryz.func25 (nA := 3) (by decide +kernel) rfl (fun _ => rfl) ?_
  simp only [Tryz.f25, bodyOf, rlOf]
  rw [W_V]
  simp (config := {maxSteps := 2000000}) only [T_specReq, Go.Proofs.Tryz.Cfx.tb_specAdd, Go.Proofs.Tryz.Cac.tb_specPragma, Go.Proofs.Tryz.Cac.tb_specHas, go_sem, seval]
  (try simp (config := {maxSteps := 2000000}) only [gimp, impB, isT, go_sem, seval])
  have hm := m13
  refine ⟨fun h1 h2 => ⟨⟨by omega, hq⟩, ⟨by omega, hm⟩, ?_⟩, fun h => ⟨fun h1 h2 => ⟨⟨by omega, hq, by omega⟩, ⟨by omega, by omega⟩, ?_⟩, fun h' => ?_⟩⟩
  · rw [cfxReq, if_pos ⟨h1, h2⟩]; rfl
  · rw [cfxReq, if_neg (and_no h), if_pos ⟨h1, h2⟩]; rfl
  · rw [cfxReq, if_neg (and_no h), if_neg (and_no h')]
def tb_specReq : List Blk → List AV → Option (List Blk × AV × Prop)
  | [], [a0, .int .i64 a, .int .i64 b] => some ([], enc_flds (cfxReq (dec_flds a0) a b), ((dec_flds a0).length ≤ 999) ∧ (∀ f ∈ (dec_flds a0), f.2.length ≤ 900) ∧ argOK a0 (enc_flds (dec_flds a0)))
  | _, _ => none
theorem tb_specReq_ok : ∀ E args E' res p, tb_specReq E args = some (E', res, p) → p → SpecE Tryz.prog 25 E args E' res := by
  intro E args E' res p h hp
  unfold tb_specReq at h
  split at h
  · simp only [Option.some.injEq, Prod.mk.injEq] at h
    obtain ⟨rfl, rfl, rfl⟩ := h
    exact SpecE.args (specReq _ _ _ hp.1 hp.2.1) (.cons hp.2.2 (.cons (argOK.refl _) (.cons (argOK.refl _) .nil)))
  · cases h
def T_specHeldF : Tbl := fun g E args => (addT nilT 54 Go.Proofs.Tryz.Cac.tb_specHas) g E args
theorem T_specHeldF_ok : TblOK Tryz.prog T_specHeldF := (addT_ok nilT_ok (by decide +kernel) Go.Proofs.Tryz.Cac.tb_specHas_ok)
set_option maxRecDepth 100000 in
set_option maxHeartbeats 4000000 in
theorem specHeldF (l : List Fld) (n : List UInt8) (hl : l.length ≤ 1000) (hq : ∀ f ∈ l, f.2.length ≤ 900) (hn : n.length ≤ maxLen) : SpecE Tryz.prog 132 [.cells 1 false .nils [enc_flds l]] [.str n, .ptr 0 0 0 1] [.cells 1 false .nils [enc_flds l]] (.bool (ctlHas l n)) := by
  refine specFE (C := T_specHeldF) (wr := false) (D := fun _ => []) (U := fun _ => none) (E := [.cells 1 false .nils [enc_flds l]]) (E' := [.cells 1 false .nils [enc_flds l]]) (res := [.bool (ctlHas l n)]) [] Tryz.Ty.mixed T_specHeldF_ok Tryz.func132 (args := [.str n, .ptr 0 0 0 1]) (nE := 1) (nA := 2) (by decide +kernel) rfl rfl ?_
  simp only [Tryz.f132, bodyOf, rlOf]
  rw [W_V]
  simp (config := {maxSteps := 2000000}) only [T_specHeldF, Go.Proofs.Tryz.Cac.tb_specHas, go_sem, seval]
  (try simp (config := {maxSteps := 2000000}) only [gimp, impB, isT, go_sem, seval])
  exact ⟨hl, hq, hn⟩
def tb_specHeldF : List Blk → List AV → Option (List Blk × AV × Prop)
  | [.cells 1 false d [b0_0]], [.str n, .ptr 0 0 0 1] => some ([.cells 1 false .nils [enc_flds (dec_flds b0_0)]], .bool (ctlHas (dec_flds b0_0) n), (d = .nils) ∧ ((dec_flds b0_0).length ≤ 1000) ∧ (∀ f ∈ (dec_flds b0_0), f.2.length ≤ 900) ∧ (n.length ≤ maxLen) ∧ b0_0 = enc_flds (dec_flds b0_0))
  | _, _ => none
theorem tb_specHeldF_ok : ∀ E args E' res p, tb_specHeldF E args = some (E', res, p) → p → SpecE Tryz.prog 132 E args E' res := by
  intro E args E' res p h hp
  unfold tb_specHeldF at h
  split at h
  · rename_i d b0_0 n
    simp only [Option.some.injEq, Prod.mk.injEq] at h
    obtain ⟨rfl, rfl, rfl⟩ := h
    obtain ⟨rfl, hh0, hh1, hh2, hb0⟩ := hp
    generalize dec_flds b0_0 = b0_0_x at *
    subst hb0
    exact (specHeldF _ _ hh0 hh1 hh2)
  · cases h
def T_specHeld : Tbl := fun g E args => (addT nilT 132 Go.Proofs.Tryz.Cfx.tb_specHeldF) g E args
theorem T_specHeld_ok : TblOK Tryz.prog T_specHeld := (addT_ok nilT_ok (by decide +kernel) Go.Proofs.Tryz.Cfx.tb_specHeldF_ok)
set_option maxRecDepth 100000 in
set_option maxHeartbeats 4000000 in
theorem specHeld (l : List Fld) (hl : l.length ≤ 1000) (hq : ∀ f ∈ l, f.2.length ≤ 900) : SpecE Tryz.prog 93 [] [enc_flds l] [] (.bool (heldB l)) := by
  refine specF0 (C := T_specHeld) (wr := false) (D := fun _ => []) (U := fun _ => none) (res := [.bool (heldB l)]) Tryz.Ty.mixed T_specHeld_ok Tryz.func93 (nA := 1) (by decide +kernel) rfl (fun _ => rfl) ?_
  simp only [Tryz.f93, bodyOf, rlOf]
  rw [W_V]
  simp (config := {maxSteps := 2000000}) only [T_specHeld, Go.Proofs.Tryz.Cfx.tb_specHeldF, go_sem, seval]
  (try simp (config := {maxSteps := 2000000}) only [gimp, impB, isT, go_sem, seval])
  have hm := m13
  refine ⟨⟨hl, hq, by omega⟩, fun h => ⟨h, ⟨hl, hq, by omega⟩, fun h1 h2 => ⟨⟨h1, h2⟩, ⟨hl, hq, by omega⟩, ?_⟩, fun h' => ⟨h', ?_⟩⟩, fun h => ⟨h, ?_⟩⟩
  · rw [Bool.or_assoc]; rfl
  · rcases h' with h' | h'
    · have : ctlHas l wdNC = true := h'
      rw [heldB, this]; rfl
    · have : ctlHas l wdNS = true := h'
      rw [heldB, this, Bool.true_or, Bool.or_true]
  · have : ctlHas l wdNC = true := h
    rw [heldB, this]; rfl
def tb_specHeld : List Blk → List AV → Option (List Blk × AV × Prop)
  | [], [a0] => some ([], .bool (heldB (dec_flds a0)), ((dec_flds a0).length ≤ 1000) ∧ (∀ f ∈ (dec_flds a0), f.2.length ≤ 900) ∧ argOK a0 (enc_flds (dec_flds a0)))
  | _, _ => none
theorem tb_specHeld_ok : ∀ E args E' res p, tb_specHeld E args = some (E', res, p) → p → SpecE Tryz.prog 93 E args E' res := by
  intro E args E' res p h hp
  unfold tb_specHeld at h
  split at h
  · simp only [Option.some.injEq, Prod.mk.injEq] at h
    obtain ⟨rfl, rfl, rfl⟩ := h
    exact SpecE.args (specHeld _ hp.1 hp.2.1) (.cons hp.2.2 .nil)
  · cases h
def T_specDate : Tbl := fun g E args => (addT (addT nilT 133 Go.Proofs.Tryz.Hdr.tb_specGet) 134 Go.Proofs.Tryz.Hdt.tb_specParseH) g E args
theorem T_specDate_ok : TblOK Tryz.prog T_specDate := (addT_ok (addT_ok nilT_ok (by decide +kernel) Go.Proofs.Tryz.Hdr.tb_specGet_ok) (by decide +kernel) Go.Proofs.Tryz.Hdt.tb_specParseH_ok)
set_option maxRecDepth 100000 in
set_option maxHeartbeats 4000000 in
theorem specDate (l : List Fld) (n : List UInt8) (now : Int) (hl : l.length ≤ 1000) (hq : ∀ f ∈ l, f.2.length ≤ 900) (hn : n.length ≤ maxLen) (ht : inR .i64 now) : SpecE Tryz.prog 95 [] [enc_flds l, .str n, .int .i64 now] [] (.tuple [.int .i64 (dateN l n now), .bool (dateB l n now)]) := by
  refine specF0 (C := T_specDate) (wr := false) (D := fun _ => []) (U := fun _ => none) (res := [.int .i64 (dateN l n now), .bool (dateB l n now)]) Tryz.Ty.mixed T_specDate_ok Tryz.func95 (nA := 3) (by decide +kernel) rfl (fun _ => rfl) ?_
  simp only [Tryz.f95, bodyOf, rlOf]
  rw [W_V]
  simp (config := {maxSteps := 2000000}) only [T_specDate, Go.Proofs.Tryz.Hdr.tb_specGet, Go.Proofs.Tryz.Hdt.tb_specParseH, go_sem, seval]
  (try simp (config := {maxSteps := 2000000}) only [gimp, impB, isT, go_sem, seval])
  have := get_len (n := n) hq
  exact ⟨⟨hl, hn⟩, ⟨by omega, ht⟩, rfl, rfl⟩
def tb_specDate : List Blk → List AV → Option (List Blk × AV × Prop)
  | [], [a0, .str n, .int .i64 now] => some ([], .tuple [.int .i64 (dateN (dec_flds a0) n now), .bool (dateB (dec_flds a0) n now)], ((dec_flds a0).length ≤ 1000) ∧ (∀ f ∈ (dec_flds a0), f.2.length ≤ 900) ∧ (n.length ≤ maxLen) ∧ (inR .i64 now) ∧ argOK a0 (enc_flds (dec_flds a0)))
  | _, _ => none
theorem tb_specDate_ok : ∀ E args E' res p, tb_specDate E args = some (E', res, p) → p → SpecE Tryz.prog 95 E args E' res := by
  intro E args E' res p h hp
  unfold tb_specDate at h
  split at h
  · simp only [Option.some.injEq, Prod.mk.injEq] at h
    obtain ⟨rfl, rfl, rfl⟩ := h
    exact SpecE.args (specDate _ _ _ hp.1 hp.2.1 hp.2.2.1 hp.2.2.2.1) (.cons hp.2.2.2.2 (.cons (argOK.refl _) (.cons (argOK.refl _) .nil)))
  · cases h
def T_specTill : Tbl := fun g E args => (addT nilT 97 Go.Proofs.Tryz.Hdt.tb_specPrintH) g E args
theorem T_specTill_ok : TblOK Tryz.prog T_specTill := (addT_ok nilT_ok (by decide +kernel) Go.Proofs.Tryz.Hdt.tb_specPrintH_ok)
set_option maxRecDepth 100000 in
set_option maxHeartbeats 4000000 in
theorem specTill (b : Bool) (base age : Int) (h1 : inR .i64 base) (h2 : 0 ≤ age ∧ age ≤ 2147483647) : SpecE Tryz.prog 96 [.cells 1 false (.bool false) [.bool b], .cells 1 false (.int .i64 0) [.int .i64 base], .cells 1 false (.int .i64 0) [.int .i64 age]] [.ptr 0 0 0 1, .ptr 1 0 0 1, .ptr 2 0 0 1] [.cells 1 false (.bool false) [.bool b], .cells 1 false (.int .i64 0) [.int .i64 base], .cells 1 false (.int .i64 0) [.int .i64 age]] (.str (tillS b base age)) := by
  refine specFE (C := T_specTill) (wr := false) (D := fun _ => []) (U := fun _ => none) (E := [.cells 1 false (.bool false) [.bool b], .cells 1 false (.int .i64 0) [.int .i64 base], .cells 1 false (.int .i64 0) [.int .i64 age]]) (E' := [.cells 1 false (.bool false) [.bool b], .cells 1 false (.int .i64 0) [.int .i64 base], .cells 1 false (.int .i64 0) [.int .i64 age]]) (res := [.str (tillS b base age)]) [] Tryz.Ty.mixed T_specTill_ok Tryz.func96 (args := [.ptr 0 0 0 1, .ptr 1 0 0 1, .ptr 2 0 0 1]) (nE := 3) (nA := 3) (by decide +kernel) rfl rfl ?_
  simp only [Tryz.f96, bodyOf, rlOf]
  rw [W_V]
  simp (config := {maxSteps := 2000000}) only [T_specTill, Go.Proofs.Tryz.Hdt.tb_specPrintH, go_sem, seval]
  (try simp (config := {maxSteps := 2000000}) only [gimp, impB, isT, go_sem, seval])
  have h1' : -9223372036854775808 ≤ base ∧ base ≤ 9223372036854775807 := h1
  refine ⟨fun h => ⟨h1, ?_⟩, fun h => ⟨fun g => ?_, fun g => ⟨by omega, by omega, ?_⟩⟩⟩
  · rw [tillS, if_pos h]
  · rw [tillS, if_neg (by rw [h]; simp), if_pos g]
  · rw [tillS, if_neg (by rw [h]; simp), if_neg (by omega)]
def tb_specTill : List Blk → List AV → Option (List Blk × AV × Prop)
  | [.cells 1 false d0 [.bool b], .cells 1 false d1 [.int .i64 base], .cells 1 false d2 [.int .i64 age]], [.ptr 0 0 0 1, .ptr 1 0 0 1, .ptr 2 0 0 1] => some ([.cells 1 false (.bool false) [.bool b], .cells 1 false (.int .i64 0) [.int .i64 base], .cells 1 false (.int .i64 0) [.int .i64 age]], .str (tillS b base age), (d0 = .bool false) ∧ (d1 = .int .i64 0) ∧ (d2 = .int .i64 0) ∧ (inR .i64 base) ∧ (0 ≤ age ∧ age ≤ 2147483647))
  | _, _ => none
theorem tb_specTill_ok : ∀ E args E' res p, tb_specTill E args = some (E', res, p) → p → SpecE Tryz.prog 96 E args E' res := by
  intro E args E' res p h hp
  unfold tb_specTill at h
  split at h
  · simp only [Option.some.injEq, Prod.mk.injEq] at h
    obtain ⟨rfl, rfl, rfl⟩ := h
    obtain ⟨rfl, rfl, rfl, hp⟩ := hp
    exact (specTill _ _ _ hp.1 hp.2)
  · cases h
def T_specOld : Tbl := fun g E args => (addT (addT (addT (addT (addT nilT 93 Go.Proofs.Tryz.Cfx.tb_specHeld) 94 Go.Proofs.Tryz.Cac.tb_specAge) 95 Go.Proofs.Tryz.Cfx.tb_specDate) 52 Go.Proofs.Tryz.Cfx.tb_specAdd) 96 Go.Proofs.Tryz.Cfx.tb_specTill) g E args
theorem T_specOld_ok : TblOK Tryz.prog T_specOld := (addT_ok (addT_ok (addT_ok (addT_ok (addT_ok nilT_ok (by decide +kernel) Go.Proofs.Tryz.Cfx.tb_specHeld_ok) (by decide +kernel) Go.Proofs.Tryz.Cac.tb_specAge_ok) (by decide +kernel) Go.Proofs.Tryz.Cfx.tb_specDate_ok) (by decide +kernel) Go.Proofs.Tryz.Cfx.tb_specAdd_ok) (by decide +kernel) Go.Proofs.Tryz.Cfx.tb_specTill_ok)
set_option maxRecDepth 100000 in
set_option maxHeartbeats 4000000 in
theorem specOld (l : List Fld) (now : Int) (hl : l.length ≤ 900) (hq : ∀ f ∈ l, f.2.length ≤ 900) (ht : inR .i64 now) : SpecE Tryz.prog 58 [] [enc_flds l, .int .i64 now] [] (enc_flds (cfxOld l now)) := by
  refine specF0 (C := T_specOld) (wr := false) (D := fun i => if i = 7 then [2, 4, 9, 20096, 30096, 50096, 60096] else []) (U := fun _ => none) (res := [enc_flds (cfxOld l now)]) Tryz.Ty.mixed T_specOld_ok Tryz.func58 (nA := 2) (by decide +kernel) rfl (fun _ => rfl) ?_
  simp only [Tryz.f58, bodyOf, rlOf]
  rw [W_V]
  simp (config := {maxSteps := 2000000}) only [T_specOld, Go.Proofs.Tryz.Cfx.tb_specHeld, Go.Proofs.Tryz.Cac.tb_specAge, Go.Proofs.Tryz.Cfx.tb_specDate, Go.Proofs.Tryz.Cfx.tb_specAdd, Go.Proofs.Tryz.Cfx.tb_specTill, go_sem, seval]
  (try simp (config := {maxSteps := 2000000}) only [gimp, impB, isT, go_sem, seval])
  have hm := m13
  have ha := age_range l
  have hd := dateN_range l nmDt now
  have hp := addF_len l [80, 114, 97, 103, 109, 97] [110, 111, 45, 99, 97, 99, 104, 101] (heldB l)
  refine ⟨⟨by omega, hq⟩, ⟨by omega, hq⟩, ⟨by omega, hq, by omega, ht⟩, fun h => ⟨⟨by omega, by omega⟩, ⟨ht, ha⟩, ⟨by omega, by omega⟩, ?_⟩, fun h => ⟨⟨by omega, by omega⟩, ⟨⟨Int.le_trans (by decide) hd.1, Int.le_trans hd.2 (by decide)⟩, ha⟩, ⟨by omega, by omega⟩, ?_⟩⟩
  · have e : baseN l now = now := by rw [baseN, if_neg (by rw [show dateB l nmDt now = false from h]; simp)]
    rw [cfxOld, e]; rfl
  · have e : baseN l now = dateN l nmDt now := by rw [baseN, if_pos (show dateB l nmDt now = true from h)]
    rw [cfxOld, e]; rfl
def tb_specOld : List Blk → List AV → Option (List Blk × AV × Prop)
  | [], [a0, .int .i64 now] => some ([], enc_flds (cfxOld (dec_flds a0) now), ((dec_flds a0).length ≤ 900) ∧ (∀ f ∈ (dec_flds a0), f.2.length ≤ 900) ∧ (inR .i64 now) ∧ argOK a0 (enc_flds (dec_flds a0)))
  | _, _ => none
theorem tb_specOld_ok : ∀ E args E' res p, tb_specOld E args = some (E', res, p) → p → SpecE Tryz.prog 58 E args E' res := by
  intro E args E' res p h hp
  unfold tb_specOld at h
  split at h
  · simp only [Option.some.injEq, Prod.mk.injEq] at h
    obtain ⟨rfl, rfl, rfl⟩ := h
    exact SpecE.args (specOld _ _ hp.1 hp.2.1 hp.2.2.1) (.cons hp.2.2.2 (.cons (argOK.refl _) .nil))
  · cases h
def T_specNew : Tbl := fun g E args => (addT (addT (addT (addT nilT 53 Go.Proofs.Tryz.Cac.tb_specPragma) 52 Go.Proofs.Tryz.Cfx.tb_specAdd) 95 Go.Proofs.Tryz.Cfx.tb_specDate) 98 Go.Proofs.Tryz.Dig.tb_specText) g E args
theorem T_specNew_ok : TblOK Tryz.prog T_specNew := (addT_ok (addT_ok (addT_ok (addT_ok nilT_ok (by decide +kernel) Go.Proofs.Tryz.Cac.tb_specPragma_ok) (by decide +kernel) Go.Proofs.Tryz.Cfx.tb_specAdd_ok) (by decide +kernel) Go.Proofs.Tryz.Cfx.tb_specDate_ok) (by decide +kernel) Go.Proofs.Tryz.Dig.tb_specText_ok)
set_option maxRecDepth 100000 in
set_option maxHeartbeats 4000000 in
theorem specNew (l : List Fld) (now : Int) (hl : l.length ≤ 900) (hq : ∀ f ∈ l, f.2.length ≤ 900) (ht : inR .i64 now) : SpecE Tryz.prog 59 [] [enc_flds l, .int .i64 now] [] (enc_flds (cfxNew l now)) := by
  refine specF0 (C := T_specNew) (wr := false) (D := fun _ => []) (U := fun _ => none) (res := [enc_flds (cfxNew l now)]) Tryz.Ty.mixed T_specNew_ok Tryz.func59 (nA := 2) (by decide +kernel) rfl (fun _ => rfl) ?_
  simp only [Tryz.f59, bodyOf, rlOf]
  rw [W_V]
  simp (config := {maxSteps := 2000000}) only [T_specNew, Go.Proofs.Tryz.Cac.tb_specPragma, Go.Proofs.Tryz.Cfx.tb_specAdd, Go.Proofs.Tryz.Cfx.tb_specDate, Go.Proofs.Tryz.Dig.tb_specText, go_sem, seval]
  (try simp (config := {maxSteps := 2000000}) only [gimp, impB, isT, go_sem, seval])
  have hm := m13
  have h1 := dateN_range l nmDt now
  have h2 := dateN_range l nmEx now
  have e1 : dateN l [68, 97, 116, 101] now = dateN l nmDt now := rfl
  have e2 : dateN l [69, 120, 112, 105, 114, 101, 115] now = dateN l nmEx now := rfl
  rw [e1, e2]
  have h3 := textI_len (max 0 (min (dateN l nmEx now - dateN l nmDt now) 2147483647))
  refine ⟨⟨by omega, hq⟩, fun h => ⟨⟨by omega, hm⟩, ?_⟩, fun h => ⟨⟨by omega, hq, by omega, ht⟩, ⟨by omega, hq, by omega, ht⟩, by omega, by omega, by omega, ⟨by omega, by omega⟩, ?_⟩⟩
  · rw [cfxNew, if_pos h]; rfl
  · rw [cfxNew, if_neg (by rw [h]; simp)]; rfl
def tb_specNew : List Blk → List AV → Option (List Blk × AV × Prop)
  | [], [a0, .int .i64 now] => some ([], enc_flds (cfxNew (dec_flds a0) now), ((dec_flds a0).length ≤ 900) ∧ (∀ f ∈ (dec_flds a0), f.2.length ≤ 900) ∧ (inR .i64 now) ∧ argOK a0 (enc_flds (dec_flds a0)))
  | _, _ => none
theorem tb_specNew_ok : ∀ E args E' res p, tb_specNew E args = some (E', res, p) → p → SpecE Tryz.prog 59 E args E' res := by
  intro E args E' res p h hp
  unfold tb_specNew at h
  split at h
  · simp only [Option.some.injEq, Prod.mk.injEq] at h
    obtain ⟨rfl, rfl, rfl⟩ := h
    exact SpecE.args (specNew _ _ hp.1 hp.2.1 hp.2.2.1) (.cons hp.2.2.2 (.cons (argOK.refl _) .nil))
  · cases h
def T_specRes : Tbl := fun g E args => (addT (addT nilT 58 Go.Proofs.Tryz.Cfx.tb_specOld) 59 Go.Proofs.Tryz.Cfx.tb_specNew) g E args
theorem T_specRes_ok : TblOK Tryz.prog T_specRes := (addT_ok (addT_ok nilT_ok (by decide +kernel) Go.Proofs.Tryz.Cfx.tb_specOld_ok) (by decide +kernel) Go.Proofs.Tryz.Cfx.tb_specNew_ok)
set_option maxRecDepth 100000 in
set_option maxHeartbeats 4000000 in
theorem specRes (l : List Fld) (a b now : Int) (hl : l.length ≤ 900) (hq : ∀ f ∈ l, f.2.length ≤ 900) (ht : inR .i64 now) : SpecE Tryz.prog 27 [] [enc_flds l, .int .i64 a, .int .i64 b, .int .i64 now] [] (enc_flds (cfxRes l a b now)) := by
  refine specF0 (C := T_specRes) (wr := false) (D := fun _ => []) (U := fun _ => none) (res := [enc_flds (cfxRes l a b now)]) Tryz.Ty.mixed T_specRes_ok Tryz.func27 (nA := 4) (by decide +kernel) rfl (fun _ => rfl) ?_
  simp only [Tryz.f27, bodyOf, rlOf]
  rw [W_V]
  simp (config := {maxSteps := 2000000}) only [T_specRes, Go.Proofs.Tryz.Cfx.tb_specOld, Go.Proofs.Tryz.Cfx.tb_specNew, go_sem, seval]
  (try simp (config := {maxSteps := 2000000}) only [gimp, impB, isT, go_sem, seval])
  refine ⟨fun h1 h2 => ⟨⟨hl, hq, ht⟩, ?_⟩, fun h => ⟨fun h1 h2 => ⟨⟨hl, hq, ht⟩, ?_⟩, fun h' => ?_⟩⟩
  · rw [cfxRes, if_pos ⟨h1, h2⟩]
  · rw [cfxRes, if_neg (and_no h), if_pos ⟨h1, h2⟩]
  · rw [cfxRes, if_neg (and_no h), if_neg (and_no h')]
def tb_specRes : List Blk → List AV → Option (List Blk × AV × Prop)
  | [], [a0, .int .i64 a, .int .i64 b, .int .i64 now] => some ([], enc_flds (cfxRes (dec_flds a0) a b now), ((dec_flds a0).length ≤ 900) ∧ (∀ f ∈ (dec_flds a0), f.2.length ≤ 900) ∧ (inR .i64 now) ∧ argOK a0 (enc_flds (dec_flds a0)))
  | _, _ => none
theorem tb_specRes_ok : ∀ E args E' res p, tb_specRes E args = some (E', res, p) → p → SpecE Tryz.prog 27 E args E' res := by
  intro E args E' res p h hp
  unfold tb_specRes at h
  split at h
  · simp only [Option.some.injEq, Prod.mk.injEq] at h
    obtain ⟨rfl, rfl, rfl⟩ := h
    exact SpecE.args (specRes _ _ _ _ hp.1 hp.2.1 hp.2.2.1) (.cons hp.2.2.2 (.cons (argOK.refl _) (.cons (argOK.refl _) (.cons (argOK.refl _) .nil))))
  · cases h
def T_specGetR : Tbl := fun g E args => (addT nilT 47 Go.Proofs.Tryz.HdrR.tb_specAll) g E args
theorem T_specGetR_ok : TblOK Tryz.prog T_specGetR := (addT_ok nilT_ok (by decide +kernel) Go.Proofs.Tryz.HdrR.tb_specAll_ok)
set_option maxRecDepth 100000 in
set_option maxHeartbeats 4000000 in
theorem specGetR (l : List Fld) (n : List UInt8) (hl : l.length ≤ 1000000) (hn : n.length ≤ 1000000) (hf : ∀ f ∈ l, f.1.length ≤ 1000000) : SpecE Tryz.prog 143 [] [enc_flds l, .str n] [] (.tuple [.str (getS l n), .bool (!decide (allS l n = []))]) := by
  refine specF0 (C := T_specGetR) (wr := false) (D := fun _ => []) (U := fun _ => none) (res := [.str (getS l n), .bool (!decide (allS l n = []))]) Tryz.Ty.mixed T_specGetR_ok Tryz.func143 (nA := 2) (by decide +kernel) rfl (fun _ => rfl) ?_
  simp only [Tryz.f143, bodyOf, rlOf]
  rw [W_V]
  simp (config := {maxSteps := 2000000}) only [T_specGetR, Go.Proofs.Tryz.HdrR.tb_specAll, go_sem, seval]
  (try simp (config := {maxSteps := 2000000}) only [gimp, impB, isT, go_sem, seval])
  refine ⟨⟨hl, hn, hf⟩, fun h => ?_, fun h => ⟨by omega, ?_⟩⟩
  · have h4 : allS l n = [] := List.eq_nil_of_length_eq_zero (by omega)
    simp [getS, h4]
  · cases hc : allS l n with
    | nil => rw [hc] at h; simp at h
    | cons a r => simp [getS, hc]
def tb_specGetR : List Blk → List AV → Option (List Blk × AV × Prop)
  | [], [a0, .str n] => some ([], .tuple [.str (getS (dec_flds a0) n), .bool (!decide (allS (dec_flds a0) n = []))], ((dec_flds a0).length ≤ 1000000) ∧ (n.length ≤ 1000000) ∧ (∀ f ∈ (dec_flds a0), f.1.length ≤ 1000000) ∧ argOK a0 (enc_flds (dec_flds a0)))
  | _, _ => none
theorem tb_specGetR_ok : ∀ E args E' res p, tb_specGetR E args = some (E', res, p) → p → SpecE Tryz.prog 143 E args E' res := by
  intro E args E' res p h hp
  unfold tb_specGetR at h
  split at h
  · simp only [Option.some.injEq, Prod.mk.injEq] at h
    obtain ⟨rfl, rfl, rfl⟩ := h
    exact SpecE.args (specGetR _ _ hp.1 hp.2.1 hp.2.2.1) (.cons hp.2.2.2 (.cons (argOK.refl _) .nil))
  · cases h
def T_specNone : Tbl := fun g E args => (addT nilT 47 Go.Proofs.Tryz.HdrR.tb_specAll) g E args
theorem T_specNone_ok : TblOK Tryz.prog T_specNone := (addT_ok nilT_ok (by decide +kernel) Go.Proofs.Tryz.HdrR.tb_specAll_ok)
set_option maxRecDepth 100000 in
set_option maxHeartbeats 4000000 in
theorem specNone (l : List Fld) (n : List UInt8) (hl : l.length ≤ 1000000) (hn : n.length ≤ 1000000) (hf : ∀ f ∈ l, f.1.length ≤ 1000000) : SpecE Tryz.prog 56 [] [enc_flds l, .str n] [] (.bool (decide (allS l n = []))) := by
  refine specF0 (C := T_specNone) (wr := false) (D := fun _ => []) (U := fun _ => none) (res := [.bool (decide (allS l n = []))]) Tryz.Ty.mixed T_specNone_ok Tryz.func56 (nA := 2) (by decide +kernel) rfl (fun _ => rfl) ?_
  simp only [Tryz.f56, bodyOf, rlOf]
  rw [W_V]
  simp (config := {maxSteps := 2000000}) only [T_specNone, Go.Proofs.Tryz.HdrR.tb_specAll, go_sem, seval]
  (try simp (config := {maxSteps := 2000000}) only [gimp, impB, isT, go_sem, seval])
  refine ⟨⟨hl, hn, hf⟩, decide_eq_decide.2 ?_⟩
  rw [← List.length_eq_zero_iff]; omega
def tb_specNone : List Blk → List AV → Option (List Blk × AV × Prop)
  | [], [a0, .str n] => some ([], .bool (decide (allS (dec_flds a0) n = [])), ((dec_flds a0).length ≤ 1000000) ∧ (n.length ≤ 1000000) ∧ (∀ f ∈ (dec_flds a0), f.1.length ≤ 1000000) ∧ argOK a0 (enc_flds (dec_flds a0)))
  | _, _ => none
theorem tb_specNone_ok : ∀ E args E' res p, tb_specNone E args = some (E', res, p) → p → SpecE Tryz.prog 56 E args E' res := by
  intro E args E' res p h hp
  unfold tb_specNone at h
  split at h
  · simp only [Option.some.injEq, Prod.mk.injEq] at h
    obtain ⟨rfl, rfl, rfl⟩ := h
    exact SpecE.args (specNone _ _ hp.1 hp.2.1 hp.2.2.1) (.cons hp.2.2.2 (.cons (argOK.refl _) .nil))
  · cases h
def T_specHasR : Tbl := fun g E args => (addT nilT 92 Go.Proofs.Tryz.CacR.tb_specFindR) g E args
theorem T_specHasR_ok : TblOK Tryz.prog T_specHasR := (addT_ok nilT_ok (by decide +kernel) Go.Proofs.Tryz.CacR.tb_specFindR_ok)
set_option maxRecDepth 100000 in
set_option maxHeartbeats 4000000 in
theorem specHasR (l : List Fld) (n : List UInt8) (hl : l.length ≤ 1000) (hf : ∀ f ∈ l, f.1.length ≤ 1000000) (hq : ∀ f ∈ l, f.2.length ≤ 900) (hn : n.length ≤ 1000000) : SpecE Tryz.prog 57 [] [enc_flds l, .str n] [] (.bool (ctlHas l n)) := by
  refine specF0 (C := T_specHasR) (wr := false) (D := fun _ => []) (U := fun _ => none) (res := [.bool (ctlHas l n)]) Tryz.Ty.mixed T_specHasR_ok Tryz.func57 (nA := 2) (by decide +kernel) rfl (fun _ => rfl) ?_
  simp only [Tryz.f57, bodyOf, rlOf]
  rw [W_V]
  simp (config := {maxSteps := 2000000}) only [T_specHasR, Go.Proofs.Tryz.CacR.tb_specFindR, go_sem, seval]
  (try simp (config := {maxSteps := 2000000}) only [gimp, impB, isT, go_sem, seval])
  exact ⟨hl, hf, hq, hn⟩
def tb_specHasR : List Blk → List AV → Option (List Blk × AV × Prop)
  | [], [a0, .str n] => some ([], .bool (ctlHas (dec_flds a0) n), ((dec_flds a0).length ≤ 1000) ∧ (∀ f ∈ (dec_flds a0), f.1.length ≤ 1000000) ∧ (∀ f ∈ (dec_flds a0), f.2.length ≤ 900) ∧ (n.length ≤ 1000000) ∧ argOK a0 (enc_flds (dec_flds a0)))
  | _, _ => none
theorem tb_specHasR_ok : ∀ E args E' res p, tb_specHasR E args = some (E', res, p) → p → SpecE Tryz.prog 57 E args E' res := by
  intro E args E' res p h hp
  unfold tb_specHasR at h
  split at h
  · simp only [Option.some.injEq, Prod.mk.injEq] at h
    obtain ⟨rfl, rfl, rfl⟩ := h
    exact SpecE.args (specHasR _ _ hp.1 hp.2.1 hp.2.2.1 hp.2.2.2.1) (.cons hp.2.2.2.2 (.cons (argOK.refl _) .nil))
  · cases h
def T_specReqR : Tbl := fun g E args => (addT (addT (addT (addT nilT 55 Go.Proofs.Tryz.CacR.tb_specPragmaR) 56 Go.Proofs.Tryz.Cfx.tb_specNone) 37 Go.Proofs.Tryz.HdrR.tb_specWith) 57 Go.Proofs.Tryz.Cfx.tb_specHasR) g E args
theorem T_specReqR_ok : TblOK Tryz.prog T_specReqR := (addT_ok (addT_ok (addT_ok (addT_ok nilT_ok (by decide +kernel) Go.Proofs.Tryz.CacR.tb_specPragmaR_ok) (by decide +kernel) Go.Proofs.Tryz.Cfx.tb_specNone_ok) (by decide +kernel) Go.Proofs.Tryz.HdrR.tb_specWith_ok) (by decide +kernel) Go.Proofs.Tryz.Cfx.tb_specHasR_ok)
set_option maxRecDepth 100000 in
set_option maxHeartbeats 4000000 in
theorem specReqR (l : List Fld) (a b : Int) (hl : l.length ≤ 999) (hf : ∀ f ∈ l, f.1.length ≤ 1000000) (hq : ∀ f ∈ l, f.2.length ≤ 900) : SpecE Tryz.prog 26 [] [enc_flds l, .int .i64 a, .int .i64 b] [] (enc_flds (cfxReq l a b)) := by
  refine specF0 (C := T_specReqR) (wr := false) (D := fun _ => []) (U := fun _ => none) (res := [enc_flds (cfxReq l a b)]) Tryz.Ty.mixed T_specReqR_ok Tryz.func26 (nA := 3) (by decide +kernel) rfl (fun _ => rfl) ?_
  simp only [Tryz.f26, bodyOf, rlOf]
  rw [W_V]
  simp (config := {maxSteps := 2000000}) only [T_specReqR, Go.Proofs.Tryz.CacR.tb_specPragmaR, Go.Proofs.Tryz.Cfx.tb_specNone, Go.Proofs.Tryz.HdrR.tb_specWith, Go.Proofs.Tryz.Cfx.tb_specHasR, go_sem, seval]
  (try simp (config := {maxSteps := 2000000}) only [gimp, impB, isT, go_sem, seval])
  refine ⟨⟨fun _ _ => by omega, fun _ _ => hf, fun _ _ => hq⟩, ⟨fun _ _ _ => by omega, fun _ _ _ => hf⟩, fun h1 h2 h3 h4 => ⟨by omega, ?_⟩, fun h => ⟨⟨fun _ _ => by omega, fun _ _ => hf, fun _ _ => hq⟩, ⟨fun _ _ _ => by omega, fun _ _ _ => hf⟩, fun h1 h2 h3 h4 => ⟨by omega, ?_⟩, fun h' => ?_⟩⟩
  · rw [List.take_length, cfxReq, if_pos ⟨by omega, h2⟩, addF, if_pos ⟨h3, by decide, h4⟩]; rfl
  · rw [List.take_length, cfxReq, if_neg (by omega), if_pos ⟨h1, by omega⟩, addF, if_pos ⟨h3, by decide, h4⟩]; rfl
  · rw [cfxReq]
    by_cases g1 : a ≤ 0 ∧ 0 < b
    · rw [if_pos g1, addF, if_neg]
      rintro ⟨g2, g3, g4⟩
      have g4' : allS l [67, 97, 99, 104, 101, 45, 67, 111, 110, 116, 114, 111, 108] = [] := g4
      have g5 : a < 1 := by omega
      simp [g1.2, g2, g4', g5] at h
    · rw [if_neg g1]
      by_cases g1' : 0 < a ∧ b ≤ 0
      · rw [if_pos g1', addF, if_neg]
        rintro ⟨g2, g3, g4⟩
        have g4' : allS l [80, 114, 97, 103, 109, 97] = [] := g4
        have g2' : ctlHas l [110, 111, 45, 99, 97, 99, 104, 101] = true := g2
        have g5 : b < 1 := by omega
        simp [g1'.1, g2', g4', g5] at h'
      · rw [if_neg g1']
def tb_specReqR : List Blk → List AV → Option (List Blk × AV × Prop)
  | [], [a0, .int .i64 a, .int .i64 b] => some ([], enc_flds (cfxReq (dec_flds a0) a b), ((dec_flds a0).length ≤ 999) ∧ (∀ f ∈ (dec_flds a0), f.1.length ≤ 1000000) ∧ (∀ f ∈ (dec_flds a0), f.2.length ≤ 900) ∧ argOK a0 (enc_flds (dec_flds a0)))
  | _, _ => none
theorem tb_specReqR_ok : ∀ E args E' res p, tb_specReqR E args = some (E', res, p) → p → SpecE Tryz.prog 26 E args E' res := by
  intro E args E' res p h hp
  unfold tb_specReqR at h
  split at h
  · simp only [Option.some.injEq, Prod.mk.injEq] at h
    obtain ⟨rfl, rfl, rfl⟩ := h
    exact SpecE.args (specReqR _ _ _ hp.1 hp.2.1 hp.2.2.1) (.cons hp.2.2.2 (.cons (argOK.refl _) (.cons (argOK.refl _) .nil)))
  · cases h
def T_specSecs : Tbl := fun g E args => (addT (addT nilT 143 Go.Proofs.Tryz.Cfx.tb_specGetR) 144 Go.Proofs.Tryz.HdtR.tb_specParseR) g E args
theorem T_specSecs_ok : TblOK Tryz.prog T_specSecs := (addT_ok (addT_ok nilT_ok (by decide +kernel) Go.Proofs.Tryz.Cfx.tb_specGetR_ok) (by decide +kernel) Go.Proofs.Tryz.HdtR.tb_specParseR_ok)
set_option maxRecDepth 100000 in
set_option maxHeartbeats 4000000 in
theorem specSecs (l : List Fld) (n : List UInt8) (now : Int) (hl : l.length ≤ 1000) (hf : ∀ f ∈ l, f.1.length ≤ 1000000) (hq : ∀ f ∈ l, f.2.length ≤ 900) (hn : n.length ≤ 1000000) (ht : inR .i64 now) : SpecE Tryz.prog 100 [] [enc_flds l, .str n, .int .i64 now] [] (.tuple [.int .i64 (dateN l n now), .bool (dateB l n now)]) := by
  refine specF0 (C := T_specSecs) (wr := false) (D := fun _ => []) (U := fun _ => none) (res := [.int .i64 (dateN l n now), .bool (dateB l n now)]) Tryz.Ty.mixed T_specSecs_ok Tryz.func100 (nA := 3) (by decide +kernel) rfl (fun _ => rfl) ?_
  simp only [Tryz.f100, bodyOf, rlOf]
  rw [W_V]
  simp (config := {maxSteps := 2000000}) only [T_specSecs, Go.Proofs.Tryz.Cfx.tb_specGetR, Go.Proofs.Tryz.HdtR.tb_specParseR, go_sem, seval]
  (try simp (config := {maxSteps := 2000000}) only [gimp, impB, isT, go_sem, seval])
  have := get_len (n := n) hq
  exact ⟨⟨by omega, hn, hf⟩, ⟨by omega, ht⟩, rfl, rfl⟩
def tb_specSecs : List Blk → List AV → Option (List Blk × AV × Prop)
  | [], [a0, .str n, .int .i64 now] => some ([], .tuple [.int .i64 (dateN (dec_flds a0) n now), .bool (dateB (dec_flds a0) n now)], ((dec_flds a0).length ≤ 1000) ∧ (∀ f ∈ (dec_flds a0), f.1.length ≤ 1000000) ∧ (∀ f ∈ (dec_flds a0), f.2.length ≤ 900) ∧ (n.length ≤ 1000000) ∧ (inR .i64 now) ∧ argOK a0 (enc_flds (dec_flds a0)))
  | _, _ => none
theorem tb_specSecs_ok : ∀ E args E' res p, tb_specSecs E args = some (E', res, p) → p → SpecE Tryz.prog 100 E args E' res := by
  intro E args E' res p h hp
  unfold tb_specSecs at h
  split at h
  · simp only [Option.some.injEq, Prod.mk.injEq] at h
    obtain ⟨rfl, rfl, rfl⟩ := h
    exact SpecE.args (specSecs _ _ _ hp.1 hp.2.1 hp.2.2.1 hp.2.2.2.1 hp.2.2.2.2.1) (.cons hp.2.2.2.2.2 (.cons (argOK.refl _) (.cons (argOK.refl _) .nil)))
  · cases h
def T_specOldR : Tbl := fun g E args => (addT (addT (addT (addT (addT (addT nilT 57 Go.Proofs.Tryz.Cfx.tb_specHasR) 99 Go.Proofs.Tryz.CacR.tb_specAgeR) 100 Go.Proofs.Tryz.Cfx.tb_specSecs) 56 Go.Proofs.Tryz.Cfx.tb_specNone) 37 Go.Proofs.Tryz.HdrR.tb_specWith) 101 Go.Proofs.Tryz.HdtR.tb_specPrintR) g E args
theorem T_specOldR_ok : TblOK Tryz.prog T_specOldR := (addT_ok (addT_ok (addT_ok (addT_ok (addT_ok (addT_ok nilT_ok (by decide +kernel) Go.Proofs.Tryz.Cfx.tb_specHasR_ok) (by decide +kernel) Go.Proofs.Tryz.CacR.tb_specAgeR_ok) (by decide +kernel) Go.Proofs.Tryz.Cfx.tb_specSecs_ok) (by decide +kernel) Go.Proofs.Tryz.Cfx.tb_specNone_ok) (by decide +kernel) Go.Proofs.Tryz.HdrR.tb_specWith_ok) (by decide +kernel) Go.Proofs.Tryz.HdtR.tb_specPrintR_ok)
set_option maxRecDepth 100000 in
set_option maxHeartbeats 4000000 in
theorem specOldR (l : List Fld) (now : Int) (hl : l.length ≤ 900) (hf : ∀ f ∈ l, f.1.length ≤ 1000000) (hq : ∀ f ∈ l, f.2.length ≤ 900) (ht : inR .i64 now) : SpecE Tryz.prog 60 [] [enc_flds l, .int .i64 now] [] (enc_flds (cfxOld l now)) := by
  refine specF0 (C := T_specOldR) (wr := false) (D := fun _ => []) (U := fun _ => none) (res := [enc_flds (cfxOld l now)]) Tryz.Ty.mixed T_specOldR_ok Tryz.func60 (nA := 2) (by decide +kernel) rfl (fun _ => rfl) ?_
  simp only [Tryz.f60, bodyOf, rlOf]
  rw [W_V]
  simp (config := {maxSteps := 2000000}) only [T_specOldR, Go.Proofs.Tryz.Cfx.tb_specHasR, Go.Proofs.Tryz.CacR.tb_specAgeR, Go.Proofs.Tryz.Cfx.tb_specSecs, Go.Proofs.Tryz.Cfx.tb_specNone, Go.Proofs.Tryz.HdrR.tb_specWith, Go.Proofs.Tryz.HdtR.tb_specPrintR, go_sem, seval]
  (try simp (config := {maxSteps := 2000000}) only [gimp, impB, isT, go_sem, seval])
  have ha := age_range l
  have hd := dateN_range l nmDt now
  have ht' : -9223372036854775808 ≤ now ∧ now ≤ 9223372036854775807 := ht
  have hin : allS (addF l nmPr wdNC (heldB l)) nmEx = allS l nmEx := allS_addF_ne pr_ex
  have ho : ∀ base, baseN l now = base → cfxOld l now = if (heldB l || ageOk l) = true ∧ tillS (heldB l) base (ageN l) ≠ [] ∧ allS l nmEx = [] then withS (addF l nmPr wdNC (heldB l)) nmEx (tillS (heldB l) base (ageN l)) else addF l nmPr wdNC (heldB l) := fun base e => by
    rw [cfxOld, e, addF, hin]
  have hb : baseN l now = if dateB l nmDt now = true then dateN l nmDt now else now := rfl
  have hh : heldB l = (ctlHas l wdNC || (ctlHas l wdNS || ctlHas l wdPv)) := rfl
  have e1 : dateN l [68, 97, 116, 101] now = dateN l nmDt now := rfl
  have e2 : dateB l [68, 97, 116, 101] now = dateB l nmDt now := rfl
  have e3 : ctlHas l [110, 111, 45, 99, 97, 99, 104, 101] = ctlHas l wdNC := rfl
  have e4 : ctlHas l [110, 111, 45, 115, 116, 111, 114, 101] = ctlHas l wdNS := rfl
  have e5 : ctlHas l [112, 114, 105, 118, 97, 116, 101] = ctlHas l wdPv := rfl
  have e6 : allS l [80, 114, 97, 103, 109, 97] = allS l nmPr := rfl
  have e7 : allS l [69, 120, 112, 105, 114, 101, 115] = allS l nmEx := rfl
  have e8 : ∀ m v, withS m [69, 120, 112, 105, 114, 101, 115] v = withS m nmEx v := fun _ _ => rfl
  have e9 : withS l [80, 114, 97, 103, 109, 97] [110, 111, 45, 99, 97, 99, 104, 101] = withS l nmPr wdNC := rfl
  have hw : ∀ b, addF l nmPr wdNC b = if b = true ∧ allS l nmPr = [] then withS l nmPr wdNC else l := fun b => by
    rw [addF]
    have : wdNC ≠ [] := by decide
    simp [this]
  have hwl : (withS l nmPr wdNC).length = l.length + 1 := by simp [withS]
  simp only [e1, e2, e3, e4, e5, e6, e7, e8, e9, List.take_length]
  generalize dateN l nmDt now = dn at *
  generalize dateB l nmDt now = db at *
  generalize allS l nmEx = ae at *
  generalize allS l nmPr = ap at *
  generalize ctlHas l wdNC = p at *
  generalize ctlHas l wdNS = q at *
  generalize ctlHas l wdPv = r at *
  have tb : ∀ base, tillS true base (ageN l) = printH base := fun _ => till_back
  have A : l.length ≤ 1000 := by omega
  have A2 : l.length ≤ 1000000 := by omega
  have A3 : l.length + 1 ≤ 1000000 := by omega
  cases db
  · have hb' : baseN l now = now := by simpa using hb
    clear hb hd e1 e2
    by_cases hbl : 253402300799 < now
    · have tl := till_late hbl ha.1
      cases p <;> cases q <;> cases r <;> simp +contextual [ho _ hb', hw, hh, tl, tb, A, A2, A3, hwl, hf, hq, ht', hbl] <;> (try (rintro (h | h) <;> simp [h]))
    · have ts := till_soon (age := ageN l) (base := now) (by omega)
      have B : -9223372036854775808 ≤ now + ageN l ∧ now + ageN l ≤ 9223372036854775807 := by omega
      cases p <;> cases q <;> cases r <;> simp +contextual [ho _ hb', hw, hh, ts, tb, A, A2, A3, hwl, hf, hq, ht', hbl, B] <;> (try (rintro (h | h) <;> simp [h]))
  · have hb' : baseN l now = dn := by simpa using hb
    have hd2 : -9223372036854775808 ≤ dn ∧ dn ≤ 9223372036854775807 := by omega
    have hbl : ¬ 253402300799 < dn := by omega
    have ts := till_soon (age := ageN l) (base := dn) (by omega)
    have B : -9223372036854775808 ≤ dn + ageN l ∧ dn + ageN l ≤ 9223372036854775807 := by omega
    cases p <;> cases q <;> cases r <;> simp +contextual [ho _ hb', hw, hh, ts, tb, A, A2, A3, hwl, hf, hq, ht', hbl, B, hd2] <;> (try (rintro (h | h) <;> simp [h]))
def tb_specOldR : List Blk → List AV → Option (List Blk × AV × Prop)
  | [], [a0, .int .i64 now] => some ([], enc_flds (cfxOld (dec_flds a0) now), ((dec_flds a0).length ≤ 900) ∧ (∀ f ∈ (dec_flds a0), f.1.length ≤ 1000000) ∧ (∀ f ∈ (dec_flds a0), f.2.length ≤ 900) ∧ (inR .i64 now) ∧ argOK a0 (enc_flds (dec_flds a0)))
  | _, _ => none
theorem tb_specOldR_ok : ∀ E args E' res p, tb_specOldR E args = some (E', res, p) → p → SpecE Tryz.prog 60 E args E' res := by
  intro E args E' res p h hp
  unfold tb_specOldR at h
  split at h
  · simp only [Option.some.injEq, Prod.mk.injEq] at h
    obtain ⟨rfl, rfl, rfl⟩ := h
    exact SpecE.args (specOldR _ _ hp.1 hp.2.1 hp.2.2.1 hp.2.2.2.1) (.cons hp.2.2.2.2 (.cons (argOK.refl _) .nil))
  · cases h
def T_specNewR : Tbl := fun g E args => (addT (addT (addT (addT (addT nilT 56 Go.Proofs.Tryz.Cfx.tb_specNone) 55 Go.Proofs.Tryz.CacR.tb_specPragmaR) 100 Go.Proofs.Tryz.Cfx.tb_specSecs) 37 Go.Proofs.Tryz.HdrR.tb_specWith) 102 Go.Proofs.Tryz.Dig.tb_specTextR) g E args
theorem T_specNewR_ok : TblOK Tryz.prog T_specNewR := (addT_ok (addT_ok (addT_ok (addT_ok (addT_ok nilT_ok (by decide +kernel) Go.Proofs.Tryz.Cfx.tb_specNone_ok) (by decide +kernel) Go.Proofs.Tryz.CacR.tb_specPragmaR_ok) (by decide +kernel) Go.Proofs.Tryz.Cfx.tb_specSecs_ok) (by decide +kernel) Go.Proofs.Tryz.HdrR.tb_specWith_ok) (by decide +kernel) Go.Proofs.Tryz.Dig.tb_specTextR_ok)
set_option maxRecDepth 100000 in
set_option maxHeartbeats 4000000 in
theorem specNewR (l : List Fld) (now : Int) (hl : l.length ≤ 900) (hf : ∀ f ∈ l, f.1.length ≤ 1000000) (hq : ∀ f ∈ l, f.2.length ≤ 900) (ht : inR .i64 now) : SpecE Tryz.prog 61 [] [enc_flds l, .int .i64 now] [] (enc_flds (cfxNew l now)) := by
  refine specF0 (C := T_specNewR) (wr := false) (D := fun _ => []) (U := fun _ => none) (res := [enc_flds (cfxNew l now)]) Tryz.Ty.mixed T_specNewR_ok Tryz.func61 (nA := 2) (by decide +kernel) rfl (fun _ => rfl) ?_
  simp only [Tryz.f61, bodyOf, rlOf]
  rw [W_V]
  simp (config := {maxSteps := 2000000}) only [T_specNewR, Go.Proofs.Tryz.Cfx.tb_specNone, Go.Proofs.Tryz.CacR.tb_specPragmaR, Go.Proofs.Tryz.Cfx.tb_specSecs, Go.Proofs.Tryz.HdrR.tb_specWith, Go.Proofs.Tryz.Dig.tb_specTextR, go_sem, seval]
  (try simp (config := {maxSteps := 2000000}) only [gimp, impB, isT, go_sem, seval])
  have h1 := dateN_range l nmDt now
  have h2 := dateN_range l nmEx now
  have e1 : dateN l [68, 97, 116, 101] now = dateN l nmDt now := rfl
  have e2 : dateN l [69, 120, 112, 105, 114, 101, 115] now = dateN l nmEx now := rfl
  have e3 : dateB l [68, 97, 116, 101] now = dateB l nmDt now := rfl
  have e4 : dateB l [69, 120, 112, 105, 114, 101, 115] now = dateB l nmEx now := rfl
  have hz := textI_len 0
  have hx := textI_len 2147483647
  rw [e1, e2, e3, e4]
  have h3 := textI_len (dateN l nmEx now - dateN l nmDt now)
  have key : ∀ n : Int, newAge l now = n → pragS l = false → dateB l nmEx now = true → dateB l nmDt now = true → allS l nmCC = [] → cfxNew l now = withS l nmCC (wdMax ++ textI n) := fun n g0 g1 g2 g3 g4 => by
    rw [cfxNew, if_neg (by rw [g1]; simp), addF, if_pos ⟨by rw [g2, g3]; rfl, by simp [wdMax], g4⟩, g0]
  refine ⟨⟨by omega, hf⟩, fun h => ?_, fun h => ⟨⟨by omega, hf, hq⟩, fun hp => ⟨by omega, ?_⟩, fun hp => ⟨⟨by omega, hf, hq, ht⟩, ⟨by omega, hf, hq, ht⟩, fun g => ?_, fun g1 g2 => ⟨by omega, fun g3 => ⟨by omega, by omega, ?_⟩, fun g3 => ⟨fun g4 => ⟨by omega, by omega, ?_⟩, fun g4 => ⟨by omega, by omega, by omega, ?_⟩⟩⟩⟩⟩⟩
  · have hn : ∀ v is, addF l nmCC v is = l := fun v is => by rw [addF, if_neg (fun g => h g.2.2)]
    rw [cfxNew, hn, hn, ite_self]
  · rw [cfxNew, if_pos hp, addF, if_pos ⟨rfl, by decide, h⟩, List.take_length]; rfl
  · rw [cfxNew, if_neg (by rw [hp]; simp), addF, if_neg]
    rintro ⟨k, -, -⟩
    rw [Bool.and_eq_true] at k
    rcases g with g | g
    · rw [k.1] at g; cases g
    · rw [k.2] at g; cases g
  · rw [key 0 (by unfold newAge; omega) hp g1 g2 h, List.take_length]; rfl
  · rw [key 2147483647 (by unfold newAge; omega) hp g1 g2 h, List.take_length]; rfl
  · rw [key (dateN l nmEx now - dateN l nmDt now) (by unfold newAge; omega) hp g1 g2 h, List.take_length]; rfl
def tb_specNewR : List Blk → List AV → Option (List Blk × AV × Prop)
  | [], [a0, .int .i64 now] => some ([], enc_flds (cfxNew (dec_flds a0) now), ((dec_flds a0).length ≤ 900) ∧ (∀ f ∈ (dec_flds a0), f.1.length ≤ 1000000) ∧ (∀ f ∈ (dec_flds a0), f.2.length ≤ 900) ∧ (inR .i64 now) ∧ argOK a0 (enc_flds (dec_flds a0)))
  | _, _ => none
theorem tb_specNewR_ok : ∀ E args E' res p, tb_specNewR E args = some (E', res, p) → p → SpecE Tryz.prog 61 E args E' res := by
  intro E args E' res p h hp
  unfold tb_specNewR at h
  split at h
  · simp only [Option.some.injEq, Prod.mk.injEq] at h
    obtain ⟨rfl, rfl, rfl⟩ := h
    exact SpecE.args (specNewR _ _ hp.1 hp.2.1 hp.2.2.1 hp.2.2.2.1) (.cons hp.2.2.2.2 (.cons (argOK.refl _) .nil))
  · cases h
def T_specResR : Tbl := fun g E args => (addT (addT nilT 60 Go.Proofs.Tryz.Cfx.tb_specOldR) 61 Go.Proofs.Tryz.Cfx.tb_specNewR) g E args
theorem T_specResR_ok : TblOK Tryz.prog T_specResR := (addT_ok (addT_ok nilT_ok (by decide +kernel) Go.Proofs.Tryz.Cfx.tb_specOldR_ok) (by decide +kernel) Go.Proofs.Tryz.Cfx.tb_specNewR_ok)
set_option maxRecDepth 100000 in
set_option maxHeartbeats 4000000 in
theorem specResR (l : List Fld) (a b now : Int) (hl : l.length ≤ 900) (hf : ∀ f ∈ l, f.1.length ≤ 1000000) (hq : ∀ f ∈ l, f.2.length ≤ 900) (ht : inR .i64 now) : SpecE Tryz.prog 28 [] [enc_flds l, .int .i64 a, .int .i64 b, .int .i64 now] [] (enc_flds (cfxRes l a b now)) := by
  refine specF0 (C := T_specResR) (wr := false) (D := fun _ => []) (U := fun _ => none) (res := [enc_flds (cfxRes l a b now)]) Tryz.Ty.mixed T_specResR_ok Tryz.func28 (nA := 4) (by decide +kernel) rfl (fun _ => rfl) ?_
  simp only [Tryz.f28, bodyOf, rlOf]
  rw [W_V]
  simp (config := {maxSteps := 2000000}) only [T_specResR, Go.Proofs.Tryz.Cfx.tb_specOldR, Go.Proofs.Tryz.Cfx.tb_specNewR, go_sem, seval]
  (try simp (config := {maxSteps := 2000000}) only [gimp, impB, isT, go_sem, seval])
  refine ⟨fun h1 h2 => ⟨⟨hl, hf, hq, ht⟩, ?_⟩, fun h => ⟨fun h1 h2 => ⟨⟨hl, hf, hq, ht⟩, ?_⟩, fun h' => ?_⟩⟩
  · rw [cfxRes, if_pos ⟨h1, by omega⟩]
  · have := and_no h
    rw [cfxRes, if_neg (by omega), if_pos ⟨by omega, h2⟩]
  · have g := and_no h
    have g' := and_no h'
    rw [cfxRes, if_neg (by omega), if_neg (by omega)]
def tb_specResR : List Blk → List AV → Option (List Blk × AV × Prop)
  | [], [a0, .int .i64 a, .int .i64 b, .int .i64 now] => some ([], enc_flds (cfxRes (dec_flds a0) a b now), ((dec_flds a0).length ≤ 900) ∧ (∀ f ∈ (dec_flds a0), f.1.length ≤ 1000000) ∧ (∀ f ∈ (dec_flds a0), f.2.length ≤ 900) ∧ (inR .i64 now) ∧ argOK a0 (enc_flds (dec_flds a0)))
  | _, _ => none
theorem tb_specResR_ok : ∀ E args E' res p, tb_specResR E args = some (E', res, p) → p → SpecE Tryz.prog 28 E args E' res := by
  intro E args E' res p h hp
  unfold tb_specResR at h
  split at h
  · simp only [Option.some.injEq, Prod.mk.injEq] at h
    obtain ⟨rfl, rfl, rfl⟩ := h
    exact SpecE.args (specResR _ _ _ _ hp.1 hp.2.1 hp.2.2.1 hp.2.2.2.1) (.cons hp.2.2.2.2 (.cons (argOK.refl _) (.cons (argOK.refl _) (.cons (argOK.refl _) .nil))))
  · cases h
end Go.Proofs.Tryz.Cfx
end
section
set_option linter.unusedVariables false
set_option linter.unusedSimpArgs false
namespace Go.Mdl
open Go Go.Abs Go.Proofs Go.Proofs.Tryz.Civil Go.Proofs.Tryz.Hdt Go.Proofs.Tryz.HdtR
theorem addF_app (l : List Fld) (n v : List UInt8) (is : Bool) : ∃ t, addF l n v is = l ++ t ∧ t.length ≤ 1 ∧ ∀ f ∈ t, allS l f.1 = [] ∧ f.2 ≠ [] ∧ f = (n, v) := by
  unfold addF
  split
  · rename_i h
    exact ⟨[(n, v)], rfl, by simp, fun f hf => by rw [List.mem_singleton.1 hf]; exact ⟨h.2.2, h.2.1, rfl⟩⟩
  · exact ⟨[], by simp, by simp, by simp⟩
theorem foldS_self (n : List UInt8) : foldS n n = true := by simp [foldS]
theorem addF_keep {l : List Fld} {n v : List UInt8} {is : Bool} (h : ¬ (is = true ∧ v ≠ [] ∧ allS l n = [])) : addF l n v is = l := by
  rw [addF, if_neg h]
theorem addF_shut {l : List Fld} {n v : List UInt8} {is : Bool} : addF l n v is = l ∨ allS (addF l n v is) n ≠ [] := by
  unfold addF
  split
  · right
    rw [allS_withS, if_pos (foldS_self n)]; simp
  · exact .inl rfl
theorem addF_again (l : List Fld) (n : List UInt8) (v : List Fld → List UInt8) (is : List Fld → Bool) : addF (addF l n (v l) (is l)) n (v (addF l n (v l) (is l))) (is (addF l n (v l) (is l))) = addF l n (v l) (is l) := by
  rcases addF_shut (l := l) (n := n) (v := v l) (is := is l) with h | h
  · rw [h, h]
  · exact addF_keep (fun g => h g.2.2)
theorem comb_addF {l : List Fld} {n v m : List UInt8} {is : Bool} (h : foldS m n = false) : combS (addF l n v is) m = combS l m := by
  rw [combS, combS, allS_addF_ne h]
theorem cc_pr : foldS nmCC nmPr = false := by decide +kernel
theorem cc_ex : foldS nmCC nmEx = false := by decide +kernel
theorem dt_pr : foldS nmDt nmPr = false := by decide +kernel
theorem dt_ex : foldS nmDt nmEx = false := by decide +kernel
theorem pr_ex' : foldS nmPr nmEx = false := by decide +kernel
theorem req_app (l : List Fld) (a b : Int) : ∃ t, cfxReq l a b = l ++ t ∧ t.length ≤ 1 ∧ ∀ f ∈ t, allS l f.1 = [] ∧ f.2 ≠ [] ∧ f.1.length ≤ 13 ∧ f.2.length ≤ 900 := by
  have key : ∀ n is, n.length ≤ 13 → ∃ t, addF l n wdNC is = l ++ t ∧ t.length ≤ 1 ∧ ∀ f ∈ t, allS l f.1 = [] ∧ f.2 ≠ [] ∧ f.1.length ≤ 13 ∧ f.2.length ≤ 900 := fun n is hn => by
    obtain ⟨t, h1, h2, h3⟩ := addF_app l n wdNC is
    exact ⟨t, h1, h2, fun f hf => ⟨(h3 f hf).1, (h3 f hf).2.1, by rw [(h3 f hf).2.2]; exact hn, by rw [(h3 f hf).2.2]; simp [wdNC]⟩⟩
  unfold cfxReq
  split
  · exact key _ _ (by decide)
  · split
    · exact key _ _ (by decide)
    · exact ⟨[], by simp, by simp, by simp⟩
theorem req_again (l : List Fld) (a b : Int) : cfxReq (cfxReq l a b) a b = cfxReq l a b := by
  by_cases h1 : a ≤ 0 ∧ 0 < b
  · simp only [cfxReq, if_pos h1]
    exact addF_again l nmCC (fun _ => wdNC) pragS
  · by_cases h2 : 0 < a ∧ b ≤ 0
    · simp only [cfxReq, if_neg h1, if_pos h2]
      exact addF_again l nmPr (fun _ => wdNC) (fun l => ctlHas l wdNC)
    · simp only [cfxReq, if_neg h1, if_neg h2]
theorem new_form (now : Int) (l : List Fld) : cfxNew l now = addF l nmCC ((fun l => if pragS l = true then wdNC else wdMax ++ textI (newAge l now)) l) ((fun l => if pragS l = true then true else (dateB l nmEx now && dateB l nmDt now)) l) := by
  unfold cfxNew; simp only []; split <;> simp_all
theorem new_again (l : List Fld) (now : Int) : cfxNew (cfxNew l now) now = cfxNew l now := by
  rw [new_form now (cfxNew l now), new_form now l]
  exact addF_again l nmCC (fun l => if pragS l = true then wdNC else wdMax ++ textI (newAge l now)) (fun l => if pragS l = true then true else (dateB l nmEx now && dateB l nmDt now))
theorem old_again (l : List Fld) (now : Int) : cfxOld (cfxOld l now) now = cfxOld l now := by
  have key : ∀ m n, foldS nmCC n = false → foldS nmDt n = false → ∀ v is, heldB (addF m n v is) = heldB m ∧ ageN (addF m n v is) = ageN m ∧ ageOk (addF m n v is) = ageOk m ∧ baseN (addF m n v is) now = baseN m now := fun m n h1 h2 v is => by
    have e : ctlS (addF m n v is) = ctlS m := by rw [ctlS, ctlS, comb_addF h1]
    have eh : ∀ w, ctlHas (addF m n v is) w = ctlHas m w := fun w => by rw [ctlHas, ctlHas, e]
    have ev : ageV (addF m n v is) = ageV m := by rw [ageV, ageV, e]
    have eg : getS (addF m n v is) nmDt = getS m nmDt := by rw [getS, getS, allS_addF_ne h2]
    refine ⟨by rw [heldB, heldB, eh, eh, eh], by rw [ageN, ageN, eh, ev], by rw [ageOk, ageOk, eh, ev], ?_⟩
    have hd : dateN (addF m n v is) nmDt now = dateN m nmDt now := by rw [dateN, dateN, eg]
    have hB : dateB (addF m n v is) nmDt now = dateB m nmDt now := by rw [dateB, dateB, eg]
    rw [baseN, baseN, hd, hB]
  obtain ⟨k1, k2, k3, k4⟩ := key l nmPr cc_pr dt_pr wdNC (heldB l)
  obtain ⟨j1, j2, j3, j4⟩ := key (addF l nmPr wdNC (heldB l)) nmEx cc_ex dt_ex (tillS (heldB l) (baseN l now) (ageN l)) (heldB l || ageOk l)
  rw [k1] at j1; rw [k2] at j2; rw [k3] at j3; rw [k4] at j4
  have e : cfxOld l now = addF (addF l nmPr wdNC (heldB l)) nmEx (tillS (heldB l) (baseN l now) (ageN l)) (heldB l || ageOk l) := rfl
  rw [← e] at j1 j2 j3 j4
  have e2 : cfxOld (cfxOld l now) now = addF (addF (cfxOld l now) nmPr wdNC (heldB l)) nmEx (tillS (heldB l) (baseN l now) (ageN l)) (heldB l || ageOk l) := by
    conv => lhs; rw [cfxOld, j1, j2, j3, j4]
  have e3 : addF (cfxOld l now) nmPr wdNC (heldB l) = cfxOld l now := by
    refine addF_keep (fun g => ?_)
    rw [e, allS_addF_ne pr_ex'] at g
    rcases addF_shut (l := l) (n := nmPr) (v := wdNC) (is := heldB l) with h | h
    · have g3 := g.2.2
      rw [h] at g3
      rw [addF, if_pos ⟨g.1, g.2.1, g3⟩] at h
      have := congrArg List.length h
      simp [withS] at this
    · exact h g.2.2
  rw [e2, e3, e]
  exact addF_again (addF l nmPr wdNC (heldB l)) nmEx (fun _ => tillS (heldB l) (baseN l now) (ageN l)) (fun _ => heldB l || ageOk l)
theorem res_again (l : List Fld) (a b now : Int) : cfxRes (cfxRes l a b now) a b now = cfxRes l a b now := by
  by_cases h1 : 0 < a ∧ b ≤ 0
  · simp only [cfxRes, if_pos h1, old_again]
  · by_cases h2 : a ≤ 0 ∧ 0 < b
    · simp only [cfxRes, if_neg h1, if_pos h2, new_again]
    · simp only [cfxRes, if_neg h1, if_neg h2]
theorem writeS_900 (d : Dt) (w form : Int) : (writeS d w form).length ≤ 900 := by
  have h1 := padL_le d.h 2
  have h2 := padL_le d.mi 2
  have h3 := padL_le d.se 2
  have h4 := padL_le d.d 2
  have h4' := padL_le d.d 1
  have h5 := padL_le d.y 4
  have h5' := padL_le (d.y % 100) 2
  have h6 := mon_le (d.mo - 1).toNat
  have h7 := day_le w.toNat
  unfold writeS
  (repeat' split) <;> (simp only [clkS, List.length_append, List.length_cons, List.length_nil, List.length_take]) <;> omega
theorem printH_900 (t : Int) : (printH t).length ≤ 900 := by
  unfold printH
  split
  · exact writeS_900 _ _ _
  · simp
theorem till_len (b : Bool) (base age : Int) : (tillS b base age).length ≤ 900 := by
  unfold tillS
  split
  · have := printH_900 base; omega
  · split
    · simp
    · have := printH_900 (base + age); omega
theorem res_app (l : List Fld) (a b now : Int) : ∃ t, cfxRes l a b now = l ++ t ∧ t.length ≤ 2 ∧ ∀ f ∈ t, allS l f.1 = [] ∧ f.2 ≠ [] ∧ f.1.length ≤ 13 ∧ f.2.length ≤ 900 := by
  have key : ∀ (m : List Fld) n v is, n.length ≤ 13 → v.length ≤ 900 → ∃ t, addF m n v is = m ++ t ∧ t.length ≤ 1 ∧ ∀ f ∈ t, allS m f.1 = [] ∧ f.2 ≠ [] ∧ f.1.length ≤ 13 ∧ f.2.length ≤ 900 := fun m n v is hn hv => by
    obtain ⟨t, h1, h2, h3⟩ := addF_app m n v is
    exact ⟨t, h1, h2, fun f hf => ⟨(h3 f hf).1, (h3 f hf).2.1, by rw [(h3 f hf).2.2]; exact hn, by rw [(h3 f hf).2.2]; exact hv⟩⟩
  unfold cfxRes
  split
  · obtain ⟨t, h1, h2, h3⟩ := key l nmPr wdNC (heldB l) (by decide) (by decide)
    obtain ⟨u, g1, g2, g3⟩ := key (addF l nmPr wdNC (heldB l)) nmEx (tillS (heldB l) (baseN l now) (ageN l)) (heldB l || ageOk l) (by decide) (till_len _ _ _)
    refine ⟨t ++ u, by rw [cfxOld, g1, h1, List.append_assoc], by rw [List.length_append]; omega, fun f hf => ?_⟩
    rcases List.mem_append.1 hf with hf | hf
    · exact h3 f hf
    · refine ⟨?_, (g3 f hf).2⟩
      have := (g3 f hf).1
      rw [h1] at this
      simp only [allS, List.filter_append, List.map_append, List.append_eq_nil_iff] at this
      exact this.1
  · split
    · rw [new_form]
      obtain ⟨t, h1, h2, h3⟩ := key l nmCC ((fun l => if pragS l = true then wdNC else wdMax ++ textI (newAge l now)) l) ((fun l => if pragS l = true then true else (dateB l nmEx now && dateB l nmDt now)) l) (by decide) (by
        have := textI_len (newAge l now)
        simp only []
        split
        · decide
        · rw [List.length_append]; simp [wdMax]; omega)
      exact ⟨t, h1, by omega, h3⟩
    · exact ⟨[], by simp, by simp, by simp⟩
end Go.Mdl
namespace Go.Proofs.Tryz.Cfx
open Go Go.Abs Go.Proofs Go.Mdl Go.Proofs.Tryz.Civil Go.Proofs.Tryz.Hdt
def T_specLives : Tbl := fun g E args => (addT (addT nilT 25 Go.Proofs.Tryz.Cfx.tb_specReq) 27 Go.Proofs.Tryz.Cfx.tb_specRes) g E args
theorem T_specLives_ok : TblOK Tryz.prog T_specLives := (addT_ok (addT_ok nilT_ok (by decide +kernel) Go.Proofs.Tryz.Cfx.tb_specReq_ok) (by decide +kernel) Go.Proofs.Tryz.Cfx.tb_specRes_ok)
set_option maxRecDepth 100000 in
set_option maxHeartbeats 4000000 in
theorem specLives : SpecE Tryz.prog 24 [] [] [] (.bool true) := by
  refine specF0 (C := T_specLives) (wr := false) (D := fun _ => []) (U := fun _ => none) (res := [.bool true]) Tryz.Ty.mixed T_specLives_ok Tryz.func24 (nA := 0) (by decide +kernel) rfl (fun _ => rfl) ?_
  simp only [Tryz.f24, bodyOf, rlOf]
  rw [W_V]
  simp (config := {maxSteps := 2000000}) only [T_specLives, Go.Proofs.Tryz.Cfx.tb_specReq, Go.Proofs.Tryz.Cfx.tb_specRes, go_sem, seval, dec_fld]
  (try simp (config := {maxSteps := 2000000}) only [gimp, impB, isT, go_sem, seval])
  decide +kernel
def tb_specLives : List Blk → List AV → Option (List Blk × AV × Prop)
  | [], [] => some ([], .bool true, True)
  | _, _ => none
theorem tb_specLives_ok : ∀ E args E' res p, tb_specLives E args = some (E', res, p) → p → SpecE Tryz.prog 24 E args E' res := by
  intro E args E' res p h hp
  unfold tb_specLives at h
  split at h
  · simp only [Option.some.injEq, Prod.mk.injEq] at h
    obtain ⟨rfl, rfl, rfl⟩ := h
    exact specLives
  · cases h
def T_specLawReq : Tbl := fun g E args => (addT (addT (addT (addT (addT nilT 8 Go.Proofs.Tryz.HdrR.tb_specFew) 25 Go.Proofs.Tryz.Cfx.tb_specReq) 26 Go.Proofs.Tryz.Cfx.tb_specReqR) 15 Go.Proofs.Tryz.HdrR.tb_specSameF) 24 Go.Proofs.Tryz.Cfx.tb_specLives) g E args
theorem T_specLawReq_ok : TblOK Tryz.prog T_specLawReq := (addT_ok (addT_ok (addT_ok (addT_ok (addT_ok nilT_ok (by decide +kernel) Go.Proofs.Tryz.HdrR.tb_specFew_ok) (by decide +kernel) Go.Proofs.Tryz.Cfx.tb_specReq_ok) (by decide +kernel) Go.Proofs.Tryz.Cfx.tb_specReqR_ok) (by decide +kernel) Go.Proofs.Tryz.HdrR.tb_specSameF_ok) (by decide +kernel) Go.Proofs.Tryz.Cfx.tb_specLives_ok)
set_option maxRecDepth 100000 in
set_option maxHeartbeats 4000000 in
theorem specLawReq (l : List Fld) (a b now : Int) (hl : l.length ≤ maxLen) : SpecE Tryz.prog 5 [] [enc_flds l, .agg [.int .i64 a, .int .i64 b, .int .i64 now]] [] (.bool true) := by
  refine specF0 (C := T_specLawReq) (wr := false) (D := fun _ => []) (U := fun _ => none) (res := [.bool true]) Tryz.Ty.mixed T_specLawReq_ok Tryz.func5 (nA := 2) (by decide +kernel) rfl (fun _ => rfl) ?_
  simp only [Tryz.f5, bodyOf, rlOf]
  rw [W_V]
  simp (config := {maxSteps := 2000000}) only [T_specLawReq, Go.Proofs.Tryz.HdrR.tb_specFew, Go.Proofs.Tryz.Cfx.tb_specReq, Go.Proofs.Tryz.Cfx.tb_specReqR, Go.Proofs.Tryz.HdrR.tb_specSameF, Go.Proofs.Tryz.Cfx.tb_specLives, go_sem, seval]
  (try simp (config := {maxSteps := 2000000}) only [gimp, impB, isT, go_sem, seval])
  refine ⟨hl, fun hfew => ?_⟩
  obtain ⟨f1, f2⟩ := fewF_len hfew
  obtain ⟨t, h1, h2, -⟩ := req_app l a b
  exact ⟨⟨by omega, fun f h => by have := (f2 f h).2; omega⟩, ⟨by omega, fun f h => by have := (f2 f h).1; omega, fun f h => by have := (f2 f h).2; omega⟩, by rw [h1, List.length_append]; omega⟩
def T_specLawRes : Tbl := fun g E args => (addT (addT (addT (addT (addT nilT 8 Go.Proofs.Tryz.HdrR.tb_specFew) 27 Go.Proofs.Tryz.Cfx.tb_specRes) 28 Go.Proofs.Tryz.Cfx.tb_specResR) 15 Go.Proofs.Tryz.HdrR.tb_specSameF) 24 Go.Proofs.Tryz.Cfx.tb_specLives) g E args
theorem T_specLawRes_ok : TblOK Tryz.prog T_specLawRes := (addT_ok (addT_ok (addT_ok (addT_ok (addT_ok nilT_ok (by decide +kernel) Go.Proofs.Tryz.HdrR.tb_specFew_ok) (by decide +kernel) Go.Proofs.Tryz.Cfx.tb_specRes_ok) (by decide +kernel) Go.Proofs.Tryz.Cfx.tb_specResR_ok) (by decide +kernel) Go.Proofs.Tryz.HdrR.tb_specSameF_ok) (by decide +kernel) Go.Proofs.Tryz.Cfx.tb_specLives_ok)
set_option maxRecDepth 100000 in
set_option maxHeartbeats 4000000 in
theorem specLawRes (l : List Fld) (a b now : Int) (hl : l.length ≤ maxLen) (hn : inR .i64 now) : SpecE Tryz.prog 6 [] [enc_flds l, .agg [.int .i64 a, .int .i64 b, .int .i64 now]] [] (.bool true) := by
  refine specF0 (C := T_specLawRes) (wr := false) (D := fun _ => []) (U := fun _ => none) (res := [.bool true]) Tryz.Ty.mixed T_specLawRes_ok Tryz.func6 (nA := 2) (by decide +kernel) rfl (fun _ => rfl) ?_
  simp only [Tryz.f6, bodyOf, rlOf]
  rw [W_V]
  simp (config := {maxSteps := 2000000}) only [T_specLawRes, Go.Proofs.Tryz.HdrR.tb_specFew, Go.Proofs.Tryz.Cfx.tb_specRes, Go.Proofs.Tryz.Cfx.tb_specResR, Go.Proofs.Tryz.HdrR.tb_specSameF, Go.Proofs.Tryz.Cfx.tb_specLives, go_sem, seval]
  (try simp (config := {maxSteps := 2000000}) only [gimp, impB, isT, go_sem, seval])
  refine ⟨hl, fun hfew => ?_⟩
  obtain ⟨f1, f2⟩ := fewF_len hfew
  obtain ⟨t, h1, h2, -⟩ := res_app l a b now
  exact ⟨⟨by omega, fun f h => by have := (f2 f h).2; omega, hn⟩, ⟨by omega, fun f h => by have := (f2 f h).1; omega, fun f h => by have := (f2 f h).2; omega, hn⟩, by rw [h1, List.length_append]; omega⟩
end Go.Proofs.Tryz.Cfx
end
section
set_option linter.unusedVariables false
set_option linter.unusedSimpArgs false
namespace Go.Proofs.Tryz.Cfx
open Go Go.Abs Go.Proofs Go.Mdl Go.Proofs.Tryz.Civil Go.Proofs.Tryz.Hdt
def T_specLawStays : Tbl := fun g E args => (addT (addT (addT (addT (addT (addT nilT 8 Go.Proofs.Tryz.HdrR.tb_specFew) 25 Go.Proofs.Tryz.Cfx.tb_specReq) 27 Go.Proofs.Tryz.Cfx.tb_specRes) 15 Go.Proofs.Tryz.HdrR.tb_specSameF) 29 Go.Proofs.Tryz.Hdr.tb_specCount) 24 Go.Proofs.Tryz.Cfx.tb_specLives) g E args
theorem T_specLawStays_ok : TblOK Tryz.prog T_specLawStays := (addT_ok (addT_ok (addT_ok (addT_ok (addT_ok (addT_ok nilT_ok (by decide +kernel) Go.Proofs.Tryz.HdrR.tb_specFew_ok) (by decide +kernel) Go.Proofs.Tryz.Cfx.tb_specReq_ok) (by decide +kernel) Go.Proofs.Tryz.Cfx.tb_specRes_ok) (by decide +kernel) Go.Proofs.Tryz.HdrR.tb_specSameF_ok) (by decide +kernel) Go.Proofs.Tryz.Hdr.tb_specCount_ok) (by decide +kernel) Go.Proofs.Tryz.Cfx.tb_specLives_ok)
set_option maxRecDepth 100000 in
set_option maxHeartbeats 4000000 in
theorem specLawStays (l : List Fld) (a b now : Int) (hl : l.length ≤ maxLen) (hn : inR .i64 now) : SpecE Tryz.prog 7 [] [enc_flds l, .agg [.int .i64 a, .int .i64 b, .int .i64 now]] [] (.bool true) := by
  refine specF0 (C := T_specLawStays) (wr := false) (D := fun i => if i = 7 then [0, 5, 10, 10064, 50064, 60064, 100064, 110064, 40064, 90064] else []) (U := fun _ => none) (res := [.bool true]) Tryz.Ty.mixed T_specLawStays_ok Tryz.func7 (nA := 2) (by decide +kernel) rfl (fun _ => rfl) ?_
  simp only [Tryz.f7, bodyOf, rlOf]
  rw [W_V]
  simp (config := {maxSteps := 2000000}) only [T_specLawStays, Go.Proofs.Tryz.HdrR.tb_specFew, Go.Proofs.Tryz.Cfx.tb_specReq, Go.Proofs.Tryz.Cfx.tb_specRes, Go.Proofs.Tryz.HdrR.tb_specSameF, Go.Proofs.Tryz.Hdr.tb_specCount, Go.Proofs.Tryz.Cfx.tb_specLives, go_sem, seval]
  (try simp (config := {maxSteps := 2000000}) only [gimp, impB, isT, go_sem, seval])
  refine ⟨hl, fun hfew => ?_⟩
  obtain ⟨f1, f2⟩ := fewF_len hfew
  obtain ⟨t, h1, h2, h3⟩ := req_app l a b
  obtain ⟨u, g1, g2, g3⟩ := res_app l a b now
  have ra := req_again l a b
  have rb := res_again l a b now
  have t1 : (cfxReq l a b).take l.length = l := by rw [h1, List.take_left]
  have u1 : (cfxRes l a b now).take l.length = l := by rw [g1, List.take_left]
  have t2 : (cfxReq l a b).drop l.length = t := by rw [h1, List.drop_left]
  have u2 : (cfxRes l a b now).drop l.length = u := by rw [g1, List.drop_left]
  have t3 : (cfxReq l a b).length = l.length + t.length := by rw [h1, List.length_append]
  have u3 : (cfxRes l a b now).length = l.length + u.length := by rw [g1, List.length_append]
  have L : l.length ≤ 40 := f1
  have hq : ∀ f ∈ l, f.2.length ≤ 900 := fun f h => by have := (f2 f h).2; omega
  have ta : ∀ f ∈ cfxReq l a b, f.2.length ≤ 900 := fun f h => by
    rw [h1] at h
    rcases List.mem_append.1 h with h | h
    · exact hq f h
    · exact (h3 f h).2.2.2
  have ua : ∀ f ∈ cfxRes l a b now, f.2.length ≤ 900 := fun f h => by
    rw [g1] at h
    rcases List.mem_append.1 h with h | h
    · exact hq f h
    · exact (g3 f h).2.2.2
  have hadd : ∀ f ∈ t ++ u, allS l f.1 = [] ∧ f.2 ≠ [] ∧ f.1.length ≤ 13 := fun f h => by
    rcases List.mem_append.1 h with h | h
    · exact ⟨(h3 f h).1, (h3 f h).2.1, (h3 f h).2.2.1⟩
    · exact ⟨(g3 f h).1, (g3 f h).2.1, (g3 f h).2.2.1⟩
  have hm := m13
  simp only [t1, u1, t2, u2, t3, u3]
  rw [← List.map_append]
  refine ⟨⟨by omega, hq⟩, ⟨by omega, hq, hn⟩, ⟨fun _ _ => by omega, fun _ _ => by omega⟩, ⟨fun _ _ _ => by omega, fun _ _ _ => by omega⟩, ⟨fun _ _ _ _ => by omega, fun _ _ _ _ => by omega⟩, fun _ _ _ _ => by omega, ⟨fun _ _ _ _ _ => by omega, fun _ _ _ _ _ => by omega⟩, fun _ _ _ _ _ => by omega, fun h => ?_, fun _ _ _ _ _ _ => ⟨⟨by omega, by omega⟩, ⟨by omega, by omega⟩, ⟨by omega, by omega⟩, ⟨by omega, by omega, by omega⟩, by rw [List.length_map, List.length_append]; omega, ?_⟩⟩
  · rcases h with ((((h | h) | h) | h) | h) | h
    · omega
    · omega
    · omega
    · omega
    · exact h trivial
    · exact h trivial
  refine VL_inv (X := Nat) (fun k => ⟨[(0, enc_flds l), (3, .ptr 64 0 0 1), (5, enc_flds (cfxReq l a b)), (6, enc_flds (cfxRes l a b now)), (83, .ref 1184 0 (t ++ u).length (t ++ u).length), (84, .int .i64 (t ++ u).length), (85, .int .i64 k)], [(1184, .cells 2 false (.agg [.str [], .str []]) ((t ++ u).map enc_fld)), (64, .cells 3 false (.agg [.int .i64 0, .int .i64 0, .int .i64 0]) [.agg [.int .i64 a, .int .i64 b, .int .i64 now]])]⟩) (fun k => k ≤ (t ++ u).length) (fun k => (t ++ u).length - k) 0 ?_ ?_ ?_
  · simp only [T_specLawStays, Go.Proofs.Tryz.HdrR.tb_specFew, Go.Proofs.Tryz.Cfx.tb_specReq, Go.Proofs.Tryz.Cfx.tb_specRes, Go.Proofs.Tryz.HdrR.tb_specSameF, Go.Proofs.Tryz.Hdr.tb_specCount, Go.Proofs.Tryz.Cfx.tb_specLives, go_sem, seval]
    refine ⟨?_, ?_⟩
    · rw [List.length_append]; omega
    · rw [List.length_append]; omega
  · exact Nat.zero_le _
  rintro k hk
  simp (config := {maxSteps := 2000000}) only [T_specLawStays, Go.Proofs.Tryz.HdrR.tb_specFew, Go.Proofs.Tryz.Cfx.tb_specReq, Go.Proofs.Tryz.Cfx.tb_specRes, Go.Proofs.Tryz.HdrR.tb_specSameF, Go.Proofs.Tryz.Hdr.tb_specCount, Go.Proofs.Tryz.Cfx.tb_specLives, go_sem, seval]
  (try simp (config := {maxSteps := 2000000}) only [gimp, impB, isT, go_sem, seval])
  rw [ra, rb]
  have htu : (t ++ u).length = t.length + u.length := List.length_append
  refine ⟨fun hlt => ?_, fun hge => ?_⟩
  · have hlt' : k < (t ++ u).length := by omega
    obtain ⟨k1, k2, k3⟩ := hadd _ (List.mem_of_getElem? (getD_of_lt (s := t ++ u) (d := ([], [])) hlt'))
    rw [Nat.zero_add]
    refine ⟨by omega, hlt', ⟨by omega, by omega⟩, fun h => ?_, fun _ _ => ⟨by omega, k + 1, by omega, by omega, by omega⟩⟩
    rcases h with h | h
    · rw [k1] at h; simp at h
    · exact k2 h
  · simp only [inR] at hn
    exact ⟨⟨by omega, ta⟩, by omega, ⟨fun _ => by omega, fun _ => ua, fun _ => hn.1, fun _ => hn.2⟩, fun _ => by omega, rfl, rfl⟩
end Go.Proofs.Tryz.Cfx
end
