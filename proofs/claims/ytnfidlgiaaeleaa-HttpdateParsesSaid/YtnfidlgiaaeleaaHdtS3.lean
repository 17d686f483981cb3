/- httpdate: the walk of the document's answer, the third form. No condition beyond those that a machine's numbers bring. -/
import Derived.Test.YtnfidlgiaaeleaaHdtS
set_option linter.unusedVariables false
set_option linter.unusedSimpArgs false
namespace Go.Proofs.Try.HdtR
open Go Go.Abs Go.Proofs Go.Mdl Go.Proofs.Try.Civil

def T_specForm3R : Tbl := fun g E args => (addT (addT (addT (addT (addT (addT nilT 83 Go.Proofs.Try.HdtR.tb_specNumberR) 84 Go.Proofs.Try.HdtR.tb_specTimeR) 56 Go.Proofs.Try.HdtR.tb_specDaysR) 57 Go.Proofs.Try.HdtR.tb_specMonthsR) 82 Go.Proofs.Try.HdtR.tb_specIndexR) 21 Go.Proofs.Try.Civil.tb_specDateR) g E args
theorem T_specForm3R_ok : TblOK Try.prog T_specForm3R := (addT_ok (addT_ok (addT_ok (addT_ok (addT_ok (addT_ok nilT_ok (by decide +kernel) Go.Proofs.Try.HdtR.tb_specNumberR_ok) (by decide +kernel) Go.Proofs.Try.HdtR.tb_specTimeR_ok) (by decide +kernel) Go.Proofs.Try.HdtR.tb_specDaysR_ok) (by decide +kernel) Go.Proofs.Try.HdtR.tb_specMonthsR_ok) (by decide +kernel) Go.Proofs.Try.HdtR.tb_specIndexR_ok) (by decide +kernel) Go.Proofs.Try.Civil.tb_specDateR_ok)
set_option maxRecDepth 100000 in
set_option maxHeartbeats 4000000 in
theorem specForm3R (s : List UInt8) (now : Int) (hs : s.length ≤ 1000000) (hn : inR .i64 now) : SpecE Try.prog 49 [] [.str s, .int .i64 3, .int .i64 now] [] (.tuple [.agg [.int .i64 (form3 s).d.y, .int .i64 (form3 s).d.mo, .int .i64 (form3 s).d.d, .int .i64 (form3 s).d.h, .int .i64 (form3 s).d.mi, .int .i64 (form3 s).d.se], .int .i64 (form3 s).week, .bool (form3 s).ok]) := by
  refine specF0 (C := T_specForm3R) (wr := false) (D := fmD) (U := fun _ => none) (res := [.agg [.int .i64 (form3 s).d.y, .int .i64 (form3 s).d.mo, .int .i64 (form3 s).d.d, .int .i64 (form3 s).d.h, .int .i64 (form3 s).d.mi, .int .i64 (form3 s).d.se], .int .i64 (form3 s).week, .bool (form3 s).ok]) Try.Ty.mixed T_specForm3R_ok Try.func49 (nA := 3) (by decide +kernel) rfl (fun _ => rfl) ?_
  simp only [Try.f49, bodyOf, rlOf]
  rw [W_V]
  simp (config := {maxSteps := 2000000}) only [T_specForm3R, Go.Proofs.Try.HdtR.tb_specNumberR, Go.Proofs.Try.HdtR.tb_specTimeR, Go.Proofs.Try.HdtR.tb_specDaysR, Go.Proofs.Try.HdtR.tb_specMonthsR, Go.Proofs.Try.HdtR.tb_specIndexR, Go.Proofs.Try.Civil.tb_specDateR, go_sem, reduceIte, Nat.reduceEqDiff, Nat.reduceAdd, Nat.reduceMul, Nat.reduceDiv, Nat.reduceMod, Nat.reduceSub, Nat.reduceBEq, Nat.reduceLT, Nat.reduceLeDiff, reduceCtorEq, Int.reduceNeg, Int.reduceEq, String.reduceEq, Int.reduceLT, Int.reduceLE, Int.reduceToNat, Int.reduceAdd, Int.reduceMul, Int.reduceSub, fmD]
  (try simp (config := {maxSteps := 2000000}) only [gimp, impB, isT, go_sem, reduceIte, Nat.reduceEqDiff, Nat.reduceAdd, Nat.reduceMul, Nat.reduceDiv, Nat.reduceMod, Nat.reduceSub, Nat.reduceBEq, Nat.reduceLT, Nat.reduceLeDiff, reduceCtorEq, Int.reduceNeg, Int.reduceEq, String.reduceEq, Int.reduceLT, Int.reduceLE, Int.reduceToNat, Int.reduceAdd, Int.reduceMul, Int.reduceSub])
  refine VL_inv (X := Nat) (fun k => fmSt s 3 now (wkK s k) k) (fun k => k ≤ 7 ∧ (k = 0 ∨ 3 < s.length)) (fun k => 7 - k) 0 ?_ ?_ ?_
  · simp only [T_specForm3R, Go.Proofs.Try.HdtR.tb_specNumberR, Go.Proofs.Try.HdtR.tb_specTimeR, Go.Proofs.Try.HdtR.tb_specDaysR, Go.Proofs.Try.HdtR.tb_specMonthsR, Go.Proofs.Try.HdtR.tb_specIndexR, Go.Proofs.Try.Civil.tb_specDateR, go_sem, reduceIte, Nat.reduceEqDiff, Nat.reduceAdd, Nat.reduceMul, Nat.reduceDiv, Nat.reduceMod, Nat.reduceSub, Nat.reduceBEq, Nat.reduceLT, Nat.reduceLeDiff, reduceCtorEq, Int.reduceNeg, Int.reduceEq, String.reduceEq, Int.reduceLT, Int.reduceLE, Int.reduceToNat, Int.reduceAdd, Int.reduceMul, Int.reduceSub, fmD, fmSt, zdt, wkK_0]
    try rfl
  · omega
  rintro k ⟨hk, hk2⟩
  unfold fmSt zdt
  simp (config := {maxSteps := 2000000}) only [T_specForm3R, Go.Proofs.Try.HdtR.tb_specNumberR, Go.Proofs.Try.HdtR.tb_specTimeR, Go.Proofs.Try.HdtR.tb_specDaysR, Go.Proofs.Try.HdtR.tb_specMonthsR, Go.Proofs.Try.HdtR.tb_specIndexR, Go.Proofs.Try.Civil.tb_specDateR, go_sem, reduceIte, Nat.reduceEqDiff, Nat.reduceAdd, Nat.reduceMul, Nat.reduceDiv, Nat.reduceMod, Nat.reduceSub, Nat.reduceBEq, Nat.reduceLT, Nat.reduceLeDiff, reduceCtorEq, Int.reduceNeg, Int.reduceEq, String.reduceEq, Int.reduceLT, Int.reduceLE, Int.reduceToNat, Int.reduceAdd, Int.reduceMul, Int.reduceSub, fmD]
  (try simp (config := {maxSteps := 2000000}) only [gimp, impB, isT, go_sem, reduceIte, Nat.reduceEqDiff, Nat.reduceAdd, Nat.reduceMul, Nat.reduceDiv, Nat.reduceMod, Nat.reduceSub, Nat.reduceBEq, Nat.reduceLT, Nat.reduceLeDiff, reduceCtorEq, Int.reduceNeg, Int.reduceEq, String.reduceEq, Int.reduceLT, Int.reduceLE, Int.reduceToNat, Int.reduceAdd, Int.reduceMul, Int.reduceSub])
  have hd7 : hdDays.length = 7 := rfl
  have hm12 : hdMonths.length = 12 := rfl
  simp only [Nat.zero_add, m12]
  refine ⟨fun h1 h2 => ?_, fun hx => ?_⟩
  · have h1' : k < 7 := by omega
    have h2' : 3 < s.length := by omega
    have hw := wkK_succ h2' h1'
    refine ⟨by omega, by omega, by omega, day_len h1', fun e => ⟨by omega, k + 1, ⟨?_, by omega⟩, by omega, by omega⟩, fun e => ⟨by omega, k + 1, ⟨?_, by omega⟩, by omega, by omega⟩⟩
    · rw [hw, if_pos e]
    · rw [hw, if_neg e]
  rw [wkK_end hk hk2 hx]
  refine ⟨fun hw => ?_, fun hw => ?_⟩
  · rw [form3, if_pos hw]; exact ⟨rfl, rfl, rfl⟩
  rw [form3, if_neg (by omega)]
  refine ⟨by omega, fun _ _ => by omega, fun _ _ _ => by omega, fun _ _ _ _ => by omega, fun h => ?_, fun h1 h2 h3 h4 h5 => ?_⟩
  · have hf : ¬ f3Ok s = true := by
      unfold f3Ok
      simp only [Bool.and_eq_true, decide_eq_true_eq]
      rintro ⟨⟨⟨⟨g1, g2⟩, g3⟩, g4⟩, g5⟩
      rcases h with (((h | h) | h) | h) | h
      · exact h (by omega)
      · exact h g2
      · exact h g3
      · exact h g4
      · exact h g5
    rw [if_neg hf]; exact ⟨rfl, rfl, rfl⟩
  · have hl : s.length = 24 := by omega
    have hf : f3Ok s = true := by
      unfold f3Ok
      simp only [Bool.and_eq_true, decide_eq_true_eq]
      exact ⟨⟨⟨⟨hl, h2⟩, h3⟩, h4⟩, h5⟩
    have hr := ix_range hdMonths (List.drop 4 (List.take 7 s))
    rw [if_pos hf]
    refine ⟨by omega, ?_, by omega, by omega, by omega, by omega, ?_, by omega, fun h8 => ⟨by omega, ?_, by omega, ?_, ?_, rfl, ?_⟩, fun h8 => ⟨by omega, ?_, ?_, rfl, ?_⟩⟩
    · rw [List.length_drop, List.length_take]; omega
    · rw [List.length_drop]; omega
    · rw [List.length_drop, List.length_take]; omega
    · rw [List.length_drop, List.length_take]; omega
    · simp only [f3D, dt0, h8, if_true]
    · simp only [tiD_y, tiD_mo, tiD_d, dtOk, f3D, dt0, Bool.and_assoc, h8, if_true]
      try rfl
    · rw [List.length_drop, List.length_take]; omega
    · simp only [f3D, dt0, h8, if_false]
    · simp only [tiD_y, tiD_mo, tiD_d, dtOk, f3D, dt0, Bool.and_assoc, h8, if_false]
      try rfl
def tb_specForm3R : List Blk → List AV → Option (List Blk × AV × Prop)
  | [], [.str s, .int .i64 3, .int .i64 now] => some ([], .tuple [.agg [.int .i64 (form3 s).d.y, .int .i64 (form3 s).d.mo, .int .i64 (form3 s).d.d, .int .i64 (form3 s).d.h, .int .i64 (form3 s).d.mi, .int .i64 (form3 s).d.se], .int .i64 (form3 s).week, .bool (form3 s).ok], (s.length ≤ 1000000) ∧ (inR .i64 now))
  | _, _ => none
theorem tb_specForm3R_ok : ∀ E args E' res p, tb_specForm3R E args = some (E', res, p) → p → SpecE Try.prog 49 E args E' res := by
  intro E args E' res p h hp
  unfold tb_specForm3R at h
  split at h
  · simp only [Option.some.injEq, Prod.mk.injEq] at h
    obtain ⟨rfl, rfl, rfl⟩ := h
    exact (specForm3R _ _ hp.1 hp.2)
  · cases h
end Go.Proofs.Try.HdtR
