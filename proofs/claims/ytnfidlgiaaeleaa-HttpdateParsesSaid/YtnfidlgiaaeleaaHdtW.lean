/- httpdate: a whole date by a pattern. -/
import Derived.Test.YtnfidlgiaaeleaaHdtP
import Derived.Test.YtnfidlgiaaeleaaHdtQ
set_option linter.unusedVariables false
set_option linter.unusedSimpArgs false
namespace Go.Proofs.Try.Hdt
open Go Go.Abs Go.Proofs Go.Mdl

def tb_specPart : List Blk → List AV → Option (List Blk × AV × Prop)
  | [.cells 10 false z [.agg [.str s, .int .i64 y, .int .i64 mo, .int .i64 d, .int .i64 h, .int .i64 mi, .int .i64 se, .int .i64 week, .bool two, .bool bad]]], [.ptr 0 0 0 1, .int .i32 r] =>
    some ([.cells 10 false rz [enc_rd (partS (UInt8.ofNat r.toNat) ⟨s, y, mo, d, h, mi, se, week, two, bad⟩)]], .tuple [],
      z = rz ∧ s.length ≤ 1000000 ∧ (r == 119 || r == 87 || r == 100 || r == 98 || r == 109 || r == 121 || r == 107 || r == 116 || r == 122 || r == 32 || r == 44 || r == 45) = true)
  | _, _ => none
theorem tb_specPart_ok : ∀ E args E' res q, tb_specPart E args = some (E', res, q) → q → SpecE Try.prog 79 E args E' res := by
  intro E args E' res q h hq
  unfold tb_specPart at h
  split at h
  · rename_i z s y mo d h mi se week two bad r
    simp only [Option.some.injEq, Prod.mk.injEq] at h
    obtain ⟨rfl, rfl, rfl⟩ := h
    obtain ⟨rfl, hs, hr⟩ := hq
    simp only [Bool.or_eq_true, beq_iff_eq] at hr
    rcases hr with ((((((((((rfl | rfl) | rfl) | rfl) | rfl) | rfl) | rfl) | rfl) | rfl) | rfl) | rfl) | rfl
    · exact specPartW3 s y mo d h mi se week two bad hs
    · exact specPartWL s y mo d h mi se week two bad hs
    · exact specPartD s y mo d h mi se week two bad hs
    · exact specPartB s y mo d h mi se week two bad hs
    · exact specPartM s y mo d h mi se week two bad hs
    · exact specPartY s y mo d h mi se week two bad hs
    · exact specPartK s y mo d h mi se week two bad hs
    · exact specPartT s y mo d h mi se week two bad hs
    · exact specPartZ s y mo d h mi se week two bad hs
    · exact specPartS1 s y mo d h mi se week two bad hs
    · exact specPartS2 s y mo d h mi se week two bad hs
    · exact specPartS3 s y mo d h mi se week two bad hs
  · cases h

def patOK (pat : List UInt8) : Bool := (List.range pat.length).all fun k => decide (runeAt pat k = (((pat.getD k 0).toNat : Int), 1)) && (pat.getD k 0 == 119 || pat.getD k 0 == 87 || pat.getD k 0 == 100 || pat.getD k 0 == 98 || pat.getD k 0 == 109 || pat.getD k 0 == 121 || pat.getD k 0 == 107 || pat.getD k 0 == 116 || pat.getD k 0 == 122 || pat.getD k 0 == 32 || pat.getD k 0 == 44 || pat.getD k 0 == 45)
theorem pat_ok1 : patOK hdPat1 = true := by decide
theorem pat_ok2 : patOK hdPat2 = true := by decide
theorem pat_ok3 : patOK hdPat3 = true := by decide
theorem patOK_at {pat : List UInt8} (hp : patOK pat = true) {k : Nat} (h : k < pat.length) : runeAt pat k = (((pat.getD k 0).toNat : Int), 1) ∧ (((((((((((((((pat.getD k 0).toNat : Int) == 119) = true ∨ (((pat.getD k 0).toNat : Int) == 87) = true) ∨ (((pat.getD k 0).toNat : Int) == 100) = true) ∨ (((pat.getD k 0).toNat : Int) == 98) = true) ∨ (((pat.getD k 0).toNat : Int) == 109) = true) ∨ (((pat.getD k 0).toNat : Int) == 121) = true) ∨ (((pat.getD k 0).toNat : Int) == 107) = true) ∨ (((pat.getD k 0).toNat : Int) == 116) = true) ∨ (((pat.getD k 0).toNat : Int) == 122) = true) ∨ (((pat.getD k 0).toNat : Int) == 32) = true) ∨ (((pat.getD k 0).toNat : Int) == 44) = true) ∨ (((pat.getD k 0).toNat : Int) == 45) = true)) := by
  unfold patOK at hp
  rw [List.all_eq_true] at hp
  have := hp k (List.mem_range.2 h)
  simp only [Bool.and_eq_true, decide_eq_true_eq] at this
  refine ⟨this.1, ?_⟩
  have h2 := this.2
  simp only [Bool.or_eq_true, beq_iff_eq] at h2
  rcases h2 with ((((((((((h | h) | h) | h) | h) | h) | h) | h) | h) | h) | h) | h <;> rw [h] <;> decide
theorem runS_succ {pat : List UInt8} {k : Nat} (h : k < pat.length) (p : Rd) : runS (pat.take (k + 1)) p = partS (pat.getD k 0) (runS (pat.take k) p) := by
  unfold runS
  rw [take_succ_getD 0 h, List.foldl_append]; rfl
theorem runS_len (pat : List UInt8) (p : Rd) : (runS pat p).s.length ≤ p.s.length := by
  unfold runS
  induction pat generalizing p with
  | nil => exact Nat.le_refl _
  | cons c t ih => exact Nat.le_trans (ih _) (partS_len c p)

def T_specWhole : Tbl := fun g E args => (addT nilT 79 Go.Proofs.Try.Hdt.tb_specPart) g E args
theorem T_specWhole_ok : TblOK Try.prog T_specWhole := (addT_ok nilT_ok (by decide +kernel) Go.Proofs.Try.Hdt.tb_specPart_ok)
set_option maxRecDepth 100000 in
set_option maxHeartbeats 4000000 in
theorem specWhole (s pat : List UInt8) (hs : s.length ≤ 1000000) (hp : patOK pat = true) : SpecE Try.prog 44 [] [.str s, .str pat] [.cells 10 false rz [enc_rd (wholeS s pat)]] (.ptr 0 0 0 1) := by
  refine specFE (C := T_specWhole) (wr := false) (D := fun _ => []) (U := fun _ => none) (E := []) (E' := [.cells 10 false rz [enc_rd (wholeS s pat)]]) (res := [.ptr 0 0 0 1]) [176] Try.Ty.mixed T_specWhole_ok Try.func44 (nE := 0) (nA := 2) (by decide +kernel) rfl rfl ?_
  simp only [Try.f44, bodyOf, rlOf]
  rw [W_V]
  simp (config := {maxSteps := 2000000}) only [T_specWhole, Go.Proofs.Try.Hdt.tb_specPart, go_sem, reduceIte, Nat.reduceEqDiff, Nat.reduceAdd, Nat.reduceMul, Nat.reduceDiv, Nat.reduceMod, Nat.reduceSub, Nat.reduceBEq, Nat.reduceLT, Nat.reduceLeDiff, reduceCtorEq, Int.reduceNeg, Int.reduceEq, String.reduceEq, Int.reduceLT, Int.reduceLE, Int.reduceToNat, Int.reduceAdd, Int.reduceMul, Int.reduceSub, rz, enc_rd, rd_eta]
  (try simp (config := {maxSteps := 2000000}) only [gimp, impB, isT, go_sem, reduceIte, Nat.reduceEqDiff, Nat.reduceAdd, Nat.reduceMul, Nat.reduceDiv, Nat.reduceMod, Nat.reduceSub, Nat.reduceBEq, Nat.reduceLT, Nat.reduceLeDiff, reduceCtorEq, Int.reduceNeg, Int.reduceEq, String.reduceEq, Int.reduceLT, Int.reduceLE, Int.reduceToNat, Int.reduceAdd, Int.reduceMul, Int.reduceSub])
  refine VL_inv (X := Nat) (fun k => ⟨[(5, .ptr 176 0 0 1), (12, .it 208)], [(176, .cells 10 false rz [enc_rd (runS (pat.take k) (rd0 s))]), (208, .iter pat k)]⟩) (fun k => k ≤ pat.length) (fun k => pat.length - k) 0 ?_ ?_ ?_
  · simp only [T_specWhole, Go.Proofs.Try.Hdt.tb_specPart, go_sem, reduceIte, Nat.reduceEqDiff, Nat.reduceAdd, Nat.reduceMul, Nat.reduceDiv, Nat.reduceMod, Nat.reduceSub, Nat.reduceBEq, Nat.reduceLT, Nat.reduceLeDiff, reduceCtorEq, Int.reduceNeg, Int.reduceEq, String.reduceEq, Int.reduceLT, Int.reduceLE, Int.reduceToNat, Int.reduceAdd, Int.reduceMul, Int.reduceSub, rz, enc_rd, rd_eta, runS, rd0, List.take_zero, List.foldl_nil]
    try rfl
  · exact Nat.zero_le _
  rintro k hk
  simp (config := {maxSteps := 2000000}) only [T_specWhole, Go.Proofs.Try.Hdt.tb_specPart, go_sem, reduceIte, Nat.reduceEqDiff, Nat.reduceAdd, Nat.reduceMul, Nat.reduceDiv, Nat.reduceMod, Nat.reduceSub, Nat.reduceBEq, Nat.reduceLT, Nat.reduceLeDiff, reduceCtorEq, Int.reduceNeg, Int.reduceEq, String.reduceEq, Int.reduceLT, Int.reduceLE, Int.reduceToNat, Int.reduceAdd, Int.reduceMul, Int.reduceSub, rz, enc_rd, rd_eta]
  (try simp (config := {maxSteps := 2000000}) only [gimp, impB, isT, go_sem, reduceIte, Nat.reduceEqDiff, Nat.reduceAdd, Nat.reduceMul, Nat.reduceDiv, Nat.reduceMod, Nat.reduceSub, Nat.reduceBEq, Nat.reduceLT, Nat.reduceLeDiff, reduceCtorEq, Int.reduceNeg, Int.reduceEq, String.reduceEq, Int.reduceLT, Int.reduceLE, Int.reduceToNat, Int.reduceAdd, Int.reduceMul, Int.reduceSub])
  have hlen : (runS (pat.take k) (rd0 s)).s.length ≤ 1000000 := Nat.le_trans (runS_len _ _) hs
  refine ⟨fun hlt => ?_, fun hge => ?_⟩
  · obtain ⟨e, hm⟩ := patOK_at hp hlt
    have eb : UInt8.ofNat (((pat.getD k 0).toNat : Int)).toNat = pat.getD k 0 := by simp
    simp only [e, eb, if_pos hlt]
    simp only [← runS_succ hlt]
    exact ⟨hlt, ⟨hlen, hm⟩, k + 1, ⟨rfl, rfl⟩, by omega, by omega⟩
  · have : k = pat.length := by omega
    subst this
    simp only [List.take_length, wholeS]
def tb_specWhole : List Blk → List AV → Option (List Blk × AV × Prop)
  | [], [.str s, .str pat] => some ([.cells 10 false rz [enc_rd (wholeS s pat)]], .ptr 0 0 0 1, (s.length ≤ 1000000) ∧ (patOK pat = true))
  | _, _ => none
theorem tb_specWhole_ok : ∀ E args E' res p, tb_specWhole E args = some (E', res, p) → p → SpecE Try.prog 44 E args E' res := by
  intro E args E' res p h hp
  unfold tb_specWhole at h
  split at h
  · simp only [Option.some.injEq, Prod.mk.injEq] at h
    obtain ⟨rfl, rfl, rfl⟩ := h
    exact (specWhole _ _ hp.1 hp.2)
  · cases h
end Go.Proofs.Try.Hdt
