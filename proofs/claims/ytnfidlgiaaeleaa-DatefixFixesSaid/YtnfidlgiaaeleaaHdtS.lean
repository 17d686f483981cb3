/- httpdate: the walks of the document's answer, whole. No condition beyond those that a machine's numbers bring. -/
import Derived.Test.YtnfidlgiaaeleaaHdtR
set_option linter.unusedVariables false
set_option linter.unusedSimpArgs false
namespace Go.Proofs.Try.HdtR
open Go Go.Abs Go.Proofs Go.Mdl Go.Proofs.Try.Civil

/-- Which operations of Form turn blocks, and which blocks they leave. -/
def fmD (i : Nat) : List Nat :=
  if i = 6 then [0] else if i = 11 then [0, 6] else if i = 20 then [7, 8, 80160, 30160, 90160, 40160] else if i = 25 then [2] else if i = 33 then [0, 6] else if i = 35 then [7, 8, 80160, 30160, 90160, 40160]
  else if i = 36 then [18, 190304, 10304, 60304, 110304, 160304] else if i = 40 then [0, 6] else if i = 44 then [7] else if i = 45 then [18, 190160, 10160, 60160, 110160, 160160] else []
theorem wk_new : ∀ k < 7, (hdDays3.take k).any (fun w => decide (w = (hdDays.getD k []).take 3)) = false := by decide
theorem wk_get : ∀ k < 7, hdDays3.getD k [] = (hdDays.getD k []).take 3 := by decide
/-- The weekday among the first ones. -/
theorem wk_step {k : Nat} (h : k < 7) (x : List UInt8) : ixN (hdDays3.take (k + 1)) x = if x = (hdDays.getD k []).take 3 then (k : Int) else ixN (hdDays3.take k) x := by
  have h7 : hdDays3.length = 7 := rfl
  rw [take_succ_getD [] (by omega), wk_get k h]
  by_cases e : x = (hdDays.getD k []).take 3
  · rw [if_pos e]
    have h1 := wk_new k h
    rw [← e] at h1 ⊢
    have hl : (hdDays3.take k).length = k := by rw [List.length_take]; omega
    apply idxP_hit (x := k) []
    · rw [List.length_append, hl]; simp
    · rw [List.take_append_of_le_length (by omega), List.take_of_length_le (by omega)]; exact h1
    · rw [List.getD_eq_getElem?_getD, List.getElem?_append_right (by omega), hl]; simp
  · rw [if_neg e]
    by_cases hm : x ∈ hdDays3.take k
    · have h1 := (ixN_mem hm).1
      have h2 : x ∈ hdDays3.take k ++ [(hdDays.getD k []).take 3] := List.mem_append_left _ hm
      rw [(ixN_mem h2).1, h1, List.findIdx_append, if_pos]
      rw [List.findIdx_lt_length]; exact ⟨x, hm, by simp⟩
    · have h2 : ¬ x ∈ hdDays3.take k ++ [(hdDays.getD k []).take 3] := by
        simp only [List.mem_append, List.mem_singleton, not_or]; exact ⟨hm, e⟩
      rw [ixN_not hm, ixN_not h2]
def enc_dt (d : Dt) : AV := .agg [.int .i64 d.y, .int .i64 d.mo, .int .i64 d.d, .int .i64 d.h, .int .i64 d.mi, .int .i64 d.se]

def wkK (s : List UInt8) (k : Nat) : Int := if 3 < s.length then ixN (hdDays3.take k) (s.take 3) else -1
theorem wkK_7 (s : List UInt8) : wkK s 7 = wkI s := rfl
theorem wkK_0 (s : List UInt8) : wkK s 0 = -1 := by unfold wkK; split <;> rfl
theorem wkK_succ {s : List UInt8} {k : Nat} (h3 : 3 < s.length) (h : k < 7) : wkK s (k + 1) = if s.take 3 = (hdDays.getD k []).take 3 then (k : Int) else wkK s k := by
  simp only [wkK, if_pos h3]; exact wk_step h _
theorem wkK_end {s : List UInt8} {k : Nat} (hk : k ≤ 7) (hk2 : k = 0 ∨ 3 < s.length) (h : (decide ((k : Int) < 7) && decide (3 < (s.length : Int))) = false) : wkK s k = wkI s := by
  simp only [Bool.and_eq_false_iff, decide_eq_false_iff_not] at h
  by_cases h3 : 3 < s.length
  · have : k = 7 := by omega
    rw [this, wkK_7]
  · have : k = 0 := by omega
    rw [this, wkK_0, wkI, if_neg h3]
theorem ix_range (l : List (List UInt8)) (x : List UInt8) : -1 ≤ ixN l x ∧ ixN l x ≤ l.length := by
  have := idxP_range (fun w => decide (w = x)) l
  unfold ixN; omega
theorem tiD_y (x : List UInt8) (d : Dt) : (tiD x d).y = d.y := by unfold tiD; split <;> rfl
theorem tiD_mo (x : List UInt8) (d : Dt) : (tiD x d).mo = d.mo := by unfold tiD; split <;> rfl
theorem tiD_d (x : List UInt8) (d : Dt) : (tiD x d).d = d.d := by unfold tiD; split <;> rfl
theorem m12 : List.take 12 hdMonths = hdMonths := rfl
theorem day_len {k : Nat} (h : k < 7) : 3 ≤ ((hdDays.getD k []).length : Int) := by have := (day_cases h).2.2.2.2.2.1; omega
def zdt : AV := .agg [.int .i64 0, .int .i64 0, .int .i64 0, .int .i64 0, .int .i64 0, .int .i64 0]
def fmSt (s : List UInt8) (form now week : Int) (k : Nat) : St := ⟨[(0, .str s), (1, .int .i64 form), (2, .int .i64 now), (6, .ptr 112 0 0 1), (7, .int .i64 0), (8, .bool false), (9, .ptr 160 0 0 1), (10, .int .i64 week), (17, .int .i64 k)],
  [(112, .cells 6 false zdt [zdt]), (160, .cells 6 false zdt [zdt])]⟩

def T_specForm1R : Tbl := fun g E args => (addT (addT (addT (addT (addT (addT nilT 83 Go.Proofs.Try.HdtR.tb_specNumberR) 84 Go.Proofs.Try.HdtR.tb_specTimeR) 56 Go.Proofs.Try.HdtR.tb_specDaysR) 57 Go.Proofs.Try.HdtR.tb_specMonthsR) 82 Go.Proofs.Try.HdtR.tb_specIndexR) 21 Go.Proofs.Try.Civil.tb_specDateR) g E args
theorem T_specForm1R_ok : TblOK Try.prog T_specForm1R := (addT_ok (addT_ok (addT_ok (addT_ok (addT_ok (addT_ok nilT_ok (by decide +kernel) Go.Proofs.Try.HdtR.tb_specNumberR_ok) (by decide +kernel) Go.Proofs.Try.HdtR.tb_specTimeR_ok) (by decide +kernel) Go.Proofs.Try.HdtR.tb_specDaysR_ok) (by decide +kernel) Go.Proofs.Try.HdtR.tb_specMonthsR_ok) (by decide +kernel) Go.Proofs.Try.HdtR.tb_specIndexR_ok) (by decide +kernel) Go.Proofs.Try.Civil.tb_specDateR_ok)
set_option maxRecDepth 100000 in
set_option maxHeartbeats 4000000 in
theorem specForm1R (s : List UInt8) (now : Int) (hs : s.length ≤ 1000000) (hn : inR .i64 now) : SpecE Try.prog 49 [] [.str s, .int .i64 1, .int .i64 now] [] (.tuple [.agg [.int .i64 (form1 s).d.y, .int .i64 (form1 s).d.mo, .int .i64 (form1 s).d.d, .int .i64 (form1 s).d.h, .int .i64 (form1 s).d.mi, .int .i64 (form1 s).d.se], .int .i64 (form1 s).week, .bool (form1 s).ok]) := by
  refine specF0 (C := T_specForm1R) (wr := false) (D := fmD) (U := fun _ => none) (res := [.agg [.int .i64 (form1 s).d.y, .int .i64 (form1 s).d.mo, .int .i64 (form1 s).d.d, .int .i64 (form1 s).d.h, .int .i64 (form1 s).d.mi, .int .i64 (form1 s).d.se], .int .i64 (form1 s).week, .bool (form1 s).ok]) Try.Ty.mixed T_specForm1R_ok Try.func49 (nA := 3) (by decide +kernel) rfl (fun _ => rfl) ?_
  simp only [Try.f49, bodyOf, rlOf]
  rw [W_V]
  simp (config := {maxSteps := 2000000}) only [T_specForm1R, Go.Proofs.Try.HdtR.tb_specNumberR, Go.Proofs.Try.HdtR.tb_specTimeR, Go.Proofs.Try.HdtR.tb_specDaysR, Go.Proofs.Try.HdtR.tb_specMonthsR, Go.Proofs.Try.HdtR.tb_specIndexR, Go.Proofs.Try.Civil.tb_specDateR, go_sem, reduceIte, Nat.reduceEqDiff, Nat.reduceAdd, Nat.reduceMul, Nat.reduceDiv, Nat.reduceMod, Nat.reduceSub, Nat.reduceBEq, Nat.reduceLT, Nat.reduceLeDiff, reduceCtorEq, Int.reduceNeg, Int.reduceEq, String.reduceEq, Int.reduceLT, Int.reduceLE, Int.reduceToNat, Int.reduceAdd, Int.reduceMul, Int.reduceSub, fmD]
  (try simp (config := {maxSteps := 2000000}) only [gimp, impB, isT, go_sem, reduceIte, Nat.reduceEqDiff, Nat.reduceAdd, Nat.reduceMul, Nat.reduceDiv, Nat.reduceMod, Nat.reduceSub, Nat.reduceBEq, Nat.reduceLT, Nat.reduceLeDiff, reduceCtorEq, Int.reduceNeg, Int.reduceEq, String.reduceEq, Int.reduceLT, Int.reduceLE, Int.reduceToNat, Int.reduceAdd, Int.reduceMul, Int.reduceSub])
  refine VL_inv (X := Nat) (fun k => fmSt s 1 now (wkK s k) k) (fun k => k ≤ 7 ∧ (k = 0 ∨ 3 < s.length)) (fun k => 7 - k) 0 ?_ ?_ ?_
  · simp only [T_specForm1R, Go.Proofs.Try.HdtR.tb_specNumberR, Go.Proofs.Try.HdtR.tb_specTimeR, Go.Proofs.Try.HdtR.tb_specDaysR, Go.Proofs.Try.HdtR.tb_specMonthsR, Go.Proofs.Try.HdtR.tb_specIndexR, Go.Proofs.Try.Civil.tb_specDateR, go_sem, reduceIte, Nat.reduceEqDiff, Nat.reduceAdd, Nat.reduceMul, Nat.reduceDiv, Nat.reduceMod, Nat.reduceSub, Nat.reduceBEq, Nat.reduceLT, Nat.reduceLeDiff, reduceCtorEq, Int.reduceNeg, Int.reduceEq, String.reduceEq, Int.reduceLT, Int.reduceLE, Int.reduceToNat, Int.reduceAdd, Int.reduceMul, Int.reduceSub, fmD, fmSt, zdt, wkK_0]
    try rfl
  · omega
  rintro k ⟨hk, hk2⟩
  unfold fmSt zdt
  simp (config := {maxSteps := 2000000}) only [T_specForm1R, Go.Proofs.Try.HdtR.tb_specNumberR, Go.Proofs.Try.HdtR.tb_specTimeR, Go.Proofs.Try.HdtR.tb_specDaysR, Go.Proofs.Try.HdtR.tb_specMonthsR, Go.Proofs.Try.HdtR.tb_specIndexR, Go.Proofs.Try.Civil.tb_specDateR, go_sem, reduceIte, Nat.reduceEqDiff, Nat.reduceAdd, Nat.reduceMul, Nat.reduceDiv, Nat.reduceMod, Nat.reduceSub, Nat.reduceBEq, Nat.reduceLT, Nat.reduceLeDiff, reduceCtorEq, Int.reduceNeg, Int.reduceEq, String.reduceEq, Int.reduceLT, Int.reduceLE, Int.reduceToNat, Int.reduceAdd, Int.reduceMul, Int.reduceSub, fmD]
  (try simp (config := {maxSteps := 2000000}) only [gimp, impB, isT, go_sem, reduceIte, Nat.reduceEqDiff, Nat.reduceAdd, Nat.reduceMul, Nat.reduceDiv, Nat.reduceMod, Nat.reduceSub, Nat.reduceBEq, Nat.reduceLT, Nat.reduceLeDiff, reduceCtorEq, Int.reduceNeg, Int.reduceEq, String.reduceEq, Int.reduceLT, Int.reduceLE, Int.reduceToNat, Int.reduceAdd, Int.reduceMul, Int.reduceSub])
  have hd7 : hdDays.length = 7 := rfl
  have hm12 : hdMonths.length = 12 := rfl
  simp only [Nat.zero_add, m12]
  refine ⟨fun h1 h2 => ?_, fun hx => ?_⟩
  · have h1' : k < 7 := by omega
    have h2' : 3 < s.length := by omega
    have hw := wkK_succ h2' h1'
    refine ⟨by omega, by omega, by omega, day_len h1', fun e => ⟨by omega, k + 1, ⟨?_, by omega⟩, by omega, by omega⟩, fun e => ⟨by omega, k + 1, ⟨?_, by omega⟩, by omega, by omega⟩⟩
    · rw [hw, if_pos e]
    · rw [hw, if_neg e]
  rw [wkK_end hk hk2 hx]
  refine ⟨fun hw => ?_, fun hw => ?_⟩
  · rw [form1, if_pos hw]; exact ⟨rfl, rfl, rfl⟩
  rw [form1, if_neg (by omega)]
  refine ⟨by omega, fun _ _ => by omega, fun _ _ _ => by omega, fun _ _ _ _ => by omega, fun _ _ _ _ _ => by omega, fun h => ?_, fun h1 h2 h3 h4 h5 h6 => ?_⟩
  · have hf : ¬ f1Ok s = true := by
      unfold f1Ok
      simp only [Bool.and_eq_true, decide_eq_true_eq]
      rintro ⟨⟨⟨⟨⟨g1, g2⟩, g3⟩, g4⟩, g5⟩, g6⟩
      rcases h with ((((h | h) | h) | h) | h) | h
      · exact h (by omega)
      · exact h g2
      · exact h g3
      · exact h g4
      · exact h g5
      · exact h g6
    rw [if_neg hf]; exact ⟨rfl, rfl, rfl⟩
  · have hl : s.length = 29 := by omega
    have hf : f1Ok s = true := by
      unfold f1Ok
      simp only [Bool.and_eq_true, decide_eq_true_eq]
      exact ⟨⟨⟨⟨⟨hl, h2⟩, h3⟩, h4⟩, h5⟩, h6⟩
    have hr := ix_range hdMonths (List.drop 8 (List.take 11 s))
    rw [if_pos hf]
    refine ⟨by omega, ?_, by omega, by omega, by omega, by omega, ?_, by omega, ?_, rfl, rfl, ?_⟩
    · rw [List.length_drop, List.length_take]; omega
    · rw [List.length_drop, List.length_take]; omega
    · rw [List.length_drop, List.length_take]; omega
    · simp only [tiD_y, tiD_mo, tiD_d, dtOk, f1D, dt0, Bool.and_assoc]
      rfl
def tb_specForm1R : List Blk → List AV → Option (List Blk × AV × Prop)
  | [], [.str s, .int .i64 1, .int .i64 now] => some ([], .tuple [.agg [.int .i64 (form1 s).d.y, .int .i64 (form1 s).d.mo, .int .i64 (form1 s).d.d, .int .i64 (form1 s).d.h, .int .i64 (form1 s).d.mi, .int .i64 (form1 s).d.se], .int .i64 (form1 s).week, .bool (form1 s).ok], (s.length ≤ 1000000) ∧ (inR .i64 now))
  | _, _ => none
theorem tb_specForm1R_ok : ∀ E args E' res p, tb_specForm1R E args = some (E', res, p) → p → SpecE Try.prog 49 E args E' res := by
  intro E args E' res p h hp
  unfold tb_specForm1R at h
  split at h
  · simp only [Option.some.injEq, Prod.mk.injEq] at h
    obtain ⟨rfl, rfl, rfl⟩ := h
    exact (specForm1R _ _ hp.1 hp.2)
  · cases h
end Go.Proofs.Try.HdtR
