/- coding: the walks of the program. No condition beyond those that a machine's numbers bring. -/
import Derived.Test.YtanpmebamgnhbaaCodM
import Derived.Test.YtanpmebamgnhbaaHdrA
import Derived.Test.YtanpmebamgnhbaaParR
import Derived.Test.YtanpmebamgnhbaaLists
set_option linter.unusedVariables false
set_option linter.unusedSimpArgs false
namespace Go.Proofs.Try.Cod
open Go Go.Abs Go.Proofs Go.Mdl

def T_specWord : Tbl := fun g E args => (addT nilT 51 Go.Proofs.Try.Par.tb_specParse) g E args
theorem T_specWord_ok : TblOK Try.prog T_specWord := (addT_ok nilT_ok (by decide +kernel) Go.Proofs.Try.Par.tb_specParse_ok)
set_option maxRecDepth 100000 in
set_option maxHeartbeats 4000000 in
theorem specWord (s : List UInt8) (hs : s.length ≤ 1000000) : SpecE Try.prog 199 [] [.str s] [] (.tuple [.str (parsName s), .bool (!decide (parsList s = [])), .bool (goodE s)]) := by
  refine specF0 (C := T_specWord) (wr := false) (D := fun _ => []) (U := fun _ => none) (res := [.str (parsName s), .bool (!decide (parsList s = [])), .bool (goodE s)]) Try.Ty.mixed T_specWord_ok Try.func199 (nA := 1) (by decide +kernel) rfl (fun _ => rfl) ?_
  simp only [Try.f199, bodyOf, rlOf]
  rw [W_V]
  simp (config := {maxSteps := 2000000}) only [T_specWord, Go.Proofs.Try.Par.tb_specParse, go_sem, reduceIte, Nat.reduceEqDiff, Nat.reduceAdd, Nat.reduceMul, Nat.reduceSub, Nat.reduceBEq, Nat.reduceLT, Nat.reduceLeDiff, reduceCtorEq, Int.reduceNeg, Int.reduceEq, String.reduceEq, Int.reduceLT, Int.reduceLE, Int.reduceToNat, Int.reduceAdd, Int.reduceMul, Int.reduceSub]
  (try simp (config := {maxSteps := 2000000}) only [gimp, impB, isT, go_sem, reduceIte, Nat.reduceEqDiff, Nat.reduceAdd, Nat.reduceMul, Nat.reduceSub, Nat.reduceBEq, Nat.reduceLT, Nat.reduceLeDiff, reduceCtorEq, Int.reduceNeg, Int.reduceEq, String.reduceEq, Int.reduceLT, Int.reduceLE, Int.reduceToNat, Int.reduceAdd, Int.reduceMul, Int.reduceSub])
  refine ⟨hs, ?_, rfl⟩
  cases parsList s with
  | nil => rfl
  | cons a r => simp
def tb_specWord : List Blk → List AV → Option (List Blk × AV × Prop)
  | [], [.str s] => some ([], .tuple [.str (parsName s), .bool (!decide (parsList s = [])), .bool (goodE s)], (s.length ≤ 1000000))
  | _, _ => none
theorem tb_specWord_ok : ∀ E args E' res p, tb_specWord E args = some (E', res, p) → p → SpecE Try.prog 199 E args E' res := by
  intro E args E' res p h hp
  unfold tb_specWord at h
  split at h
  · simp only [Option.some.injEq, Prod.mk.injEq] at h
    obtain ⟨rfl, rfl, rfl⟩ := h
    exact (specWord _ hp)
  · cases h

def T_specTrailP : Tbl := fun g E args => (addT nilT 199 Go.Proofs.Try.Cod.tb_specWord) g E args
theorem T_specTrailP_ok : TblOK Try.prog T_specTrailP := (addT_ok nilT_ok (by decide +kernel) Go.Proofs.Try.Cod.tb_specWord_ok)
set_option maxRecDepth 100000 in
set_option maxHeartbeats 4000000 in
theorem specTrailP (s : List UInt8) (hs : s.length ≤ 1000000) : SpecE Try.prog 201 [] [.str s] [] (.bool (decide (parsName s = wdTrailers))) := by
  refine specF0 (C := T_specTrailP) (wr := false) (D := fun _ => []) (U := fun _ => none) (res := [.bool (decide (parsName s = wdTrailers))]) Try.Ty.mixed T_specTrailP_ok Try.func201 (nA := 1) (by decide +kernel) rfl (fun _ => rfl) ?_
  simp only [Try.f201, bodyOf, rlOf]
  rw [W_V]
  simp (config := {maxSteps := 2000000}) only [T_specTrailP, Go.Proofs.Try.Cod.tb_specWord, go_sem, reduceIte, Nat.reduceEqDiff, Nat.reduceAdd, Nat.reduceMul, Nat.reduceSub, Nat.reduceBEq, Nat.reduceLT, Nat.reduceLeDiff, reduceCtorEq, Int.reduceNeg, Int.reduceEq, String.reduceEq, Int.reduceLT, Int.reduceLE, Int.reduceToNat, Int.reduceAdd, Int.reduceMul, Int.reduceSub]
  (try simp (config := {maxSteps := 2000000}) only [gimp, impB, isT, go_sem, reduceIte, Nat.reduceEqDiff, Nat.reduceAdd, Nat.reduceMul, Nat.reduceSub, Nat.reduceBEq, Nat.reduceLT, Nat.reduceLeDiff, reduceCtorEq, Int.reduceNeg, Int.reduceEq, String.reduceEq, Int.reduceLT, Int.reduceLE, Int.reduceToNat, Int.reduceAdd, Int.reduceMul, Int.reduceSub])
  exact ⟨hs, rfl⟩
def tb_specTrailP : List Blk → List AV → Option (List Blk × AV × Prop)
  | [], [.str s] => some ([], .bool (decide (parsName s = wdTrailers)), (s.length ≤ 1000000))
  | _, _ => none
theorem tb_specTrailP_ok : ∀ E args E' res p, tb_specTrailP E args = some (E', res, p) → p → SpecE Try.prog 201 E args E' res := by
  intro E args E' res p h hp
  unfold tb_specTrailP at h
  split at h
  · simp only [Option.some.injEq, Prod.mk.injEq] at h
    obtain ⟨rfl, rfl, rfl⟩ := h
    exact (specTrailP _ hp)
  · cases h

def T_specTrailHas : Tbl := fun g E args => nilT g E args
theorem T_specTrailHas_ok : TblOK Try.prog T_specTrailHas := nilT_ok
set_option maxRecDepth 100000 in
set_option maxHeartbeats 4000000 in
theorem specTrailHas (l : List (List UInt8)) (hl : l.length ≤ maxLen) (hq : ∀ x ∈ l, x.length ≤ 1000000) : SpecE Try.prog 145 [] [enc_strs l, .clo 201 0 []] [] (.bool (l.any fun e => decide (parsName e = wdTrailers))) := by
  exact Slc.has0_S (by decide) (q := fun x => x.length ≤ 1000000) (fun x hx => specTrailP x hx) l hq hl
def tb_specTrailHas : List Blk → List AV → Option (List Blk × AV × Prop)
  | [], [a0, .clo 201 0 []] => some ([], .bool ((dec_strs a0).any fun e => decide (parsName e = wdTrailers)), ((dec_strs a0).length ≤ maxLen) ∧ (∀ x ∈ (dec_strs a0), x.length ≤ 1000000) ∧ argOK a0 (enc_strs (dec_strs a0)))
  | _, _ => none
theorem tb_specTrailHas_ok : ∀ E args E' res p, tb_specTrailHas E args = some (E', res, p) → p → SpecE Try.prog 145 E args E' res := by
  intro E args E' res p h hp
  unfold tb_specTrailHas at h
  split at h
  · simp only [Option.some.injEq, Prod.mk.injEq] at h
    obtain ⟨rfl, rfl, rfl⟩ := h
    exact SpecE.args (specTrailHas _ hp.1 hp.2.1) (.cons hp.2.2 (.cons (argOK.refl _) .nil))
  · cases h

def T_specTrailers : Tbl := fun g E args => (addT (addT (addT nilT 198 Go.Proofs.Try.Hdr.tb_specCombined) 35 Go.Proofs.Try.Lists.tb_specSplit) 145 Go.Proofs.Try.Cod.tb_specTrailHas) g E args
theorem T_specTrailers_ok : TblOK Try.prog T_specTrailers := (addT_ok (addT_ok (addT_ok nilT_ok (by decide +kernel) Go.Proofs.Try.Hdr.tb_specCombined_ok) (by decide +kernel) Go.Proofs.Try.Lists.tb_specSplit_ok) (by decide +kernel) Go.Proofs.Try.Cod.tb_specTrailHas_ok)
set_option maxRecDepth 100000 in
set_option maxHeartbeats 4000000 in
theorem specTrailers (l : List Fld) (hl : l.length ≤ 1000) (hq : ∀ f ∈ l, f.2.length ≤ 900) : SpecE Try.prog 97 [] [enc_flds l] [] (.bool (trailB l)) := by
  refine specF0 (C := T_specTrailers) (wr := false) (D := fun _ => []) (U := fun _ => none) (res := [.bool (trailB l)]) Try.Ty.mixed T_specTrailers_ok Try.func97 (nA := 1) (by decide +kernel) rfl (fun _ => rfl) ?_
  simp only [Try.f97, bodyOf, rlOf]
  rw [W_V]
  simp (config := {maxSteps := 2000000}) only [T_specTrailers, Go.Proofs.Try.Hdr.tb_specCombined, Go.Proofs.Try.Lists.tb_specSplit, Go.Proofs.Try.Cod.tb_specTrailHas, go_sem, reduceIte, Nat.reduceEqDiff, Nat.reduceAdd, Nat.reduceMul, Nat.reduceSub, Nat.reduceBEq, Nat.reduceLT, Nat.reduceLeDiff, reduceCtorEq, Int.reduceNeg, Int.reduceEq, String.reduceEq, Int.reduceLT, Int.reduceLE, Int.reduceToNat, Int.reduceAdd, Int.reduceMul, Int.reduceSub]
  (try simp (config := {maxSteps := 2000000}) only [gimp, impB, isT, go_sem, reduceIte, Nat.reduceEqDiff, Nat.reduceAdd, Nat.reduceMul, Nat.reduceSub, Nat.reduceBEq, Nat.reduceLT, Nat.reduceLeDiff, reduceCtorEq, Int.reduceNeg, Int.reduceEq, String.reduceEq, Int.reduceLT, Int.reduceLE, Int.reduceToNat, Int.reduceAdd, Int.reduceMul, Int.reduceSub])
  have h1 := comb_len3 [84, 69] hl hq
  have h2 := splitS_count (combS l [84, 69])
  have hm : (1000000 : Nat) ≤ maxLen := by decide
  exact ⟨⟨hl, by decide, fun f h => by have := hq f h; omega⟩, by omega, ⟨by omega, fun x hx => by have := (splitS_mem hx).1; omega⟩, rfl⟩
def tb_specTrailers : List Blk → List AV → Option (List Blk × AV × Prop)
  | [], [a0] => some ([], .bool (trailB (dec_flds a0)), ((dec_flds a0).length ≤ 1000) ∧ (∀ f ∈ (dec_flds a0), f.2.length ≤ 900) ∧ argOK a0 (enc_flds (dec_flds a0)))
  | _, _ => none
theorem tb_specTrailers_ok : ∀ E args E' res p, tb_specTrailers E args = some (E', res, p) → p → SpecE Try.prog 97 E args E' res := by
  intro E args E' res p h hp
  unfold tb_specTrailers at h
  split at h
  · simp only [Option.some.injEq, Prod.mk.injEq] at h
    obtain ⟨rfl, rfl, rfl⟩ := h
    exact SpecE.args (specTrailers _ hp.1 hp.2.1) (.cons hp.2.2 .nil)
  · cases h

def T_specChunked : Tbl := fun g E args => (addT (addT (addT nilT 198 Go.Proofs.Try.Hdr.tb_specCombined) 35 Go.Proofs.Try.Lists.tb_specSplit) 199 Go.Proofs.Try.Cod.tb_specWord) g E args
theorem T_specChunked_ok : TblOK Try.prog T_specChunked := (addT_ok (addT_ok (addT_ok nilT_ok (by decide +kernel) Go.Proofs.Try.Hdr.tb_specCombined_ok) (by decide +kernel) Go.Proofs.Try.Lists.tb_specSplit_ok) (by decide +kernel) Go.Proofs.Try.Cod.tb_specWord_ok)
set_option maxRecDepth 100000 in
set_option maxHeartbeats 4000000 in
theorem specChunked (l : List Fld) (hl : l.length ≤ 1000) (hq : ∀ f ∈ l, f.2.length ≤ 900) : SpecE Try.prog 95 [] [enc_flds l] [] (.tuple [.bool (codB l), .int .i64 (codE l)]) := by
  refine specF0 (C := T_specChunked) (wr := false) (D := fun _ => []) (U := fun _ => none) (res := [.bool (codB l), .int .i64 (codE l)]) Try.Ty.mixed T_specChunked_ok Try.func95 (nA := 1) (by decide +kernel) rfl (fun _ => rfl) ?_
  simp only [Try.f95, bodyOf, rlOf]
  rw [W_V]
  simp (config := {maxSteps := 2000000}) only [T_specChunked, Go.Proofs.Try.Hdr.tb_specCombined, Go.Proofs.Try.Lists.tb_specSplit, Go.Proofs.Try.Cod.tb_specWord, go_sem, reduceIte, Nat.reduceEqDiff, Nat.reduceAdd, Nat.reduceMul, Nat.reduceSub, Nat.reduceBEq, Nat.reduceLT, Nat.reduceLeDiff, reduceCtorEq, Int.reduceNeg, Int.reduceEq, String.reduceEq, Int.reduceLT, Int.reduceLE, Int.reduceToNat, Int.reduceAdd, Int.reduceMul, Int.reduceSub]
  (try simp (config := {maxSteps := 2000000}) only [gimp, impB, isT, go_sem, reduceIte, Nat.reduceEqDiff, Nat.reduceAdd, Nat.reduceMul, Nat.reduceSub, Nat.reduceBEq, Nat.reduceLT, Nat.reduceLeDiff, reduceCtorEq, Int.reduceNeg, Int.reduceEq, String.reduceEq, Int.reduceLT, Int.reduceLE, Int.reduceToNat, Int.reduceAdd, Int.reduceMul, Int.reduceSub])
  rw [show [84, 114, 97, 110, 115, 102, 101, 114, 45, 69, 110, 99, 111, 100, 105, 110, 103] = nmTE from rfl]
  have hcomb := comb_len3 nmTE hl hq
  refine ⟨⟨hl, by decide, fun f h => by have := hq f h; omega⟩, fun h => by simp [codB, codE, h], fun hhas => ⟨by omega, ?_⟩⟩
  have hB : codB l = (codOk (combS l nmTE) && decide ((splitS (combS l nmTE)).length ≤ 1)) := by simp [codB, hhas]
  have hE : codE l = if codOk (combS l nmTE) = true then (if (splitS (combS l nmTE)).length ≤ 1 then 0 else 15) else 14 := by simp [codE, hhas]
  have hO : codOk (combS l nmTE) = (endsS (combS l nmTE) && codGood (splitS (combS l nmTE))) := rfl
  have hcnt := splitS_count (combS l nmTE)
  have hsm : ∀ e ∈ splitS (combS l nmTE), e.length ≤ 1000000 := fun e he => by have := (splitS_mem he).1; omega
  rw [hO] at hB hE
  generalize codB l = tB at *
  generalize codE l = tE at *
  generalize endsS (combS l nmTE) = en at *
  generalize splitS (combS l nmTE) = w at *
  refine VL_inv (X := Nat) (fun k => ⟨[(6, enc_strs w), (7, .bool (en && (w.take k).all goodE)), (8, .int .i64 ((w.take k).countP isChk)), (29, enc_strs w), (30, .int .i64 w.length), (31, .int .i64 k)], []⟩) (fun k => k ≤ w.length) (fun k => w.length - k) 0 ?_ ?_ ?_
  · simp only [List.take_zero, List.all_nil, List.countP_nil, Bool.and_true, go_sem, go_sem, reduceIte, Nat.reduceEqDiff, Nat.reduceAdd, Nat.reduceMul, Nat.reduceSub, Nat.reduceBEq, Nat.reduceLT, Nat.reduceLeDiff, reduceCtorEq, Int.reduceNeg, Int.reduceEq, String.reduceEq, Int.reduceLT, Int.reduceLE, Int.reduceToNat, Int.reduceAdd, Int.reduceMul, Int.reduceSub]
    try rfl
  · exact Nat.zero_le _
  rintro k hk
  simp (config := {maxSteps := 2000000}) only [T_specChunked, Go.Proofs.Try.Hdr.tb_specCombined, Go.Proofs.Try.Lists.tb_specSplit, Go.Proofs.Try.Cod.tb_specWord, go_sem, reduceIte, Nat.reduceEqDiff, Nat.reduceAdd, Nat.reduceMul, Nat.reduceSub, Nat.reduceBEq, Nat.reduceLT, Nat.reduceLeDiff, reduceCtorEq, Int.reduceNeg, Int.reduceEq, String.reduceEq, Int.reduceLT, Int.reduceLE, Int.reduceToNat, Int.reduceAdd, Int.reduceMul, Int.reduceSub]
  (try simp (config := {maxSteps := 2000000}) only [gimp, impB, isT, go_sem, reduceIte, Nat.reduceEqDiff, Nat.reduceAdd, Nat.reduceMul, Nat.reduceSub, Nat.reduceBEq, Nat.reduceLT, Nat.reduceLeDiff, reduceCtorEq, Int.reduceNeg, Int.reduceEq, String.reduceEq, Int.reduceLT, Int.reduceLE, Int.reduceToNat, Int.reduceAdd, Int.reduceMul, Int.reduceSub])
  have ht := fun h : k < w.length => take_succ_getD (s := w) [] h
  have hall : k < w.length → (w.take (k + 1)).all goodE = ((w.take k).all goodE && goodE (w.getD k [])) := fun h => by
    rw [ht h, List.all_append]; simp only [List.all_cons, List.all_nil, Bool.and_true]
  have hcp := fun h : k < w.length => countP_take_succ (p := isChk) (l := w) h
  have hcl : (w.take k).countP isChk ≤ k := by
    have := List.countP_le_length (p := isChk) (l := w.take k)
    rw [List.length_take] at this; omega
  have hmem : k < w.length → (w.getD k []).length ≤ 1000000 := fun h => hsm _ (List.mem_of_getElem? (getD_of_lt (s := w) (d := []) h))
  refine ⟨fun hlt => ⟨by omega, hmem (by omega), fun hy => ⟨by omega, by omega, k + 1, ⟨?_, ?_, by omega⟩, by omega, by omega⟩, fun hno => ⟨by omega, k + 1, ⟨?_, ?_, by omega⟩, by omega, by omega⟩⟩, fun hge => ?_⟩
  · rw [hall (by omega), Bool.and_assoc]
  · rw [hcp (by omega), if_pos (by rw [isChk, decide_eq_true_eq]; exact hy)]; rfl
  · rw [hall (by omega), Bool.and_assoc]
  · rw [hcp (by omega), if_neg (by rw [isChk, decide_eq_true_eq]; exact hno)]; rfl
  have hkl : k = w.length := by omega
  subst hkl
  rw [List.take_length]
  have hG : codGood w = (w.all goodE && (decide (w.countP isChk = 1) && (isChk (w.getD (w.length - 1) []) && decide (parsList (w.getD (w.length - 1) []) = [])))) := rfl
  have hno : (en && codGood w) = false → false = tB ∧ 14 = tE := fun h => by
    rw [hB, hE, h]; exact ⟨rfl, rfl⟩
  refine ⟨fun h => hno ?_, fun h1 h2 h3 => ?_⟩
  · rw [hG]
    rcases h with h | h
    · rw [← Bool.and_assoc, h]; rfl
    · rw [decide_eq_false (fun e => h (by omega))]; simp
  · have hpos : 1 ≤ w.length := by
      have := List.countP_le_length (p := isChk) (l := w); omega
    refine ⟨by omega, by omega, hsm _ (List.mem_of_getElem? (getD_of_lt (s := w) (d := []) (by omega))), fun h => hno ?_, fun h4 h5 => ?_⟩
    · rw [hG]
      rcases h with h | h
      · have : isChk (w.getD (w.length - 1) []) = false := by rw [isChk, decide_eq_false_iff_not]; exact h
        rw [this]; simp
      · rw [decide_eq_false h]; simp
    · have hyes : (en && codGood w) = true := by
        have h4' : isChk (w.getD (w.length - 1) []) = true := by rw [isChk, decide_eq_true_eq]; exact h4
        rw [hG, h1, h2, h4', decide_eq_true h5, decide_eq_true (by omega : w.countP isChk = 1)]; rfl
      rw [hB, hE, hyes]
      refine ⟨fun h => ?_, fun h => ?_⟩
      · have : ¬ w.length ≤ 1 := by omega
        simp [this]
      · have : w.length ≤ 1 := by omega
        simp [this]
def tb_specChunked : List Blk → List AV → Option (List Blk × AV × Prop)
  | [], [a0] => some ([], .tuple [.bool (codB (dec_flds a0)), .int .i64 (codE (dec_flds a0))], ((dec_flds a0).length ≤ 1000) ∧ (∀ f ∈ (dec_flds a0), f.2.length ≤ 900) ∧ argOK a0 (enc_flds (dec_flds a0)))
  | _, _ => none
theorem tb_specChunked_ok : ∀ E args E' res p, tb_specChunked E args = some (E', res, p) → p → SpecE Try.prog 95 E args E' res := by
  intro E args E' res p h hp
  unfold tb_specChunked at h
  split at h
  · simp only [Option.some.injEq, Prod.mk.injEq] at h
    obtain ⟨rfl, rfl, rfl⟩ := h
    exact SpecE.args (specChunked _ hp.1 hp.2.1) (.cons hp.2.2 .nil)
  · cases h
end Go.Proofs.Try.Cod
