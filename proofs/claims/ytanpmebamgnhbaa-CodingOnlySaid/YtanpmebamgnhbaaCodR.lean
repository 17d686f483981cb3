/- coding: the walks of the document's answer, and of the statements. No condition beyond those that a machine's numbers bring. -/
import Derived.Test.YtanpmebamgnhbaaCod
import Derived.Test.YtanpmebamgnhbaaListsR
set_option linter.unusedVariables false
set_option linter.unusedSimpArgs false
namespace Go.Proofs.Try.CodR
open Go Go.Abs Go.Proofs Go.Mdl

def T_specChunkedR : Tbl := fun g E args => (addT (addT (addT nilT 200 Go.Proofs.Try.HdrR.tb_specCombined) 36 Go.Proofs.Try.Lists.tb_specSplitR) 52 Go.Proofs.Try.Par.tb_specParseR) g E args
theorem T_specChunkedR_ok : TblOK Try.prog T_specChunkedR := (addT_ok (addT_ok (addT_ok nilT_ok (by decide +kernel) Go.Proofs.Try.HdrR.tb_specCombined_ok) (by decide +kernel) Go.Proofs.Try.Lists.tb_specSplitR_ok) (by decide +kernel) Go.Proofs.Try.Par.tb_specParseR_ok)
set_option maxRecDepth 100000 in
set_option maxHeartbeats 4000000 in
theorem specChunkedR (l : List Fld) (hl : l.length ≤ 1000) (hf : ∀ f ∈ l, f.1.length ≤ 1000000) (hq : ∀ f ∈ l, f.2.length ≤ 900) : SpecE Try.prog 96 [] [enc_flds l] [] (.tuple [.bool (codB l), .int .i64 (codE l)]) := by
  refine specF0 (C := T_specChunkedR) (wr := false) (D := fun _ => []) (U := fun _ => none) (res := [.bool (codB l), .int .i64 (codE l)]) Try.Ty.mixed T_specChunkedR_ok Try.func96 (nA := 1) (by decide +kernel) rfl (fun _ => rfl) ?_
  simp only [Try.f96, bodyOf, rlOf]
  rw [W_V]
  simp (config := {maxSteps := 2000000}) only [T_specChunkedR, Go.Proofs.Try.HdrR.tb_specCombined, Go.Proofs.Try.Lists.tb_specSplitR, Go.Proofs.Try.Par.tb_specParseR, go_sem, reduceIte, Nat.reduceEqDiff, Nat.reduceAdd, Nat.reduceMul, Nat.reduceSub, Nat.reduceBEq, Nat.reduceLT, Nat.reduceLeDiff, reduceCtorEq, Int.reduceNeg, Int.reduceEq, String.reduceEq, Int.reduceLT, Int.reduceLE, Int.reduceToNat, Int.reduceAdd, Int.reduceMul, Int.reduceSub]
  (try simp (config := {maxSteps := 2000000}) only [gimp, impB, isT, go_sem, reduceIte, Nat.reduceEqDiff, Nat.reduceAdd, Nat.reduceMul, Nat.reduceSub, Nat.reduceBEq, Nat.reduceLT, Nat.reduceLeDiff, reduceCtorEq, Int.reduceNeg, Int.reduceEq, String.reduceEq, Int.reduceLT, Int.reduceLE, Int.reduceToNat, Int.reduceAdd, Int.reduceMul, Int.reduceSub])
  rw [show [84, 114, 97, 110, 115, 102, 101, 114, 45, 69, 110, 99, 111, 100, 105, 110, 103] = nmTE from rfl]
  have hcomb := comb_len3 nmTE hl hq
  have hH := hasF_iff l nmTE
  have hB : codB l = (hasF l nmTE && ((endsS (combS l nmTE) && codGood (splitS (combS l nmTE))) && decide ((splitS (combS l nmTE)).length ≤ 1))) := rfl
  have hE : codE l = if hasF l nmTE = true then (if (endsS (combS l nmTE) && codGood (splitS (combS l nmTE))) = true then (if (splitS (combS l nmTE)).length ≤ 1 then 0 else 15) else 14) else 0 := rfl
  have hcnt := splitS_count (combS l nmTE)
  have hsm : ∀ e ∈ splitS (combS l nmTE), e.length ≤ 1000000 := fun e he => by have := (splitS_mem he).1; omega
  rw [hH] at hB hE
  generalize codB l = tB at *
  generalize codE l = tE at *
  refine ⟨⟨hl, hf, fun f h => by have := hq f h; omega⟩, by omega, fun h => ?_, fun h0 => ?_⟩
  · rw [hB, hE, h]; exact ⟨rfl, rfl⟩
  rw [decide_eq_false h0] at hB hE
  generalize endsS (combS l nmTE) = en at *
  generalize splitS (combS l nmTE) = w at *
  simp only [Bool.not_false, Bool.true_and, if_true] at hB hE
  have hno : (en && codGood w) = false → false = tB ∧ 14 = tE := fun h => by
    rw [hB, hE, h]; exact ⟨rfl, rfl⟩
  refine ⟨fun h => hno ?_, fun hen hne => ?_⟩
  · rcases h with h | h
    · rw [h]; rfl
    · have : w = [] := List.length_eq_zero_iff.1 (by omega)
      subst this
      simp [codGood]
  refine VL_inv (X := Nat) (fun k => ⟨[(6, enc_strs w), (8, .int .i64 k)], []⟩) (fun k => k ≤ w.length ∧ ∀ i, i < k → refElem w i = true) (fun k => w.length - k) 0 ?_ ?_ ?_
  · simp only [go_sem, go_sem, reduceIte, Nat.reduceEqDiff, Nat.reduceAdd, Nat.reduceMul, Nat.reduceSub, Nat.reduceBEq, Nat.reduceLT, Nat.reduceLeDiff, reduceCtorEq, Int.reduceNeg, Int.reduceEq, String.reduceEq, Int.reduceLT, Int.reduceLE, Int.reduceToNat, Int.reduceAdd, Int.reduceMul, Int.reduceSub]
    try rfl
  · exact ⟨Nat.zero_le _, fun i h => absurd h (Nat.not_lt_zero i)⟩
  rintro k ⟨hk, hn⟩
  simp (config := {maxSteps := 2000000}) only [T_specChunkedR, Go.Proofs.Try.HdrR.tb_specCombined, Go.Proofs.Try.Lists.tb_specSplitR, Go.Proofs.Try.Par.tb_specParseR, go_sem, reduceIte, Nat.reduceEqDiff, Nat.reduceAdd, Nat.reduceMul, Nat.reduceSub, Nat.reduceBEq, Nat.reduceLT, Nat.reduceLeDiff, reduceCtorEq, Int.reduceNeg, Int.reduceEq, String.reduceEq, Int.reduceLT, Int.reduceLE, Int.reduceToNat, Int.reduceAdd, Int.reduceMul, Int.reduceSub]
  (try simp (config := {maxSteps := 2000000}) only [gimp, impB, isT, go_sem, reduceIte, Nat.reduceEqDiff, Nat.reduceAdd, Nat.reduceMul, Nat.reduceSub, Nat.reduceBEq, Nat.reduceLT, Nat.reduceLeDiff, reduceCtorEq, Int.reduceNeg, Int.reduceEq, String.reduceEq, Int.reduceLT, Int.reduceLE, Int.reduceToNat, Int.reduceAdd, Int.reduceMul, Int.reduceSub])
  have hlast : decide ((k : Int) = (w.length : Int) - 1) = decide (k + 1 = w.length) := by
    rw [Bool.eq_iff_iff, decide_eq_true_eq, decide_eq_true_eq]; omega
  have hlastp : ((k : Int) = (w.length : Int) - 1) ↔ k + 1 = w.length := by omega
  have hchk : decide (parsName (w.getD k []) = [99, 104, 117, 110, 107, 101, 100]) = isChk (w.getD k []) := rfl
  have hpl : ((0 : Int) < ((parsList (w.getD k [])).length : Int)) ↔ ¬ parsList (w.getD k []) = [] := by
    rw [← List.length_eq_zero_iff]; omega
  have hR : refElem w k = (goodE (w.getD k []) && (decide (decide (k + 1 = w.length) = isChk (w.getD k [])) && (!decide (k + 1 = w.length) || decide (parsList (w.getD k []) = [])))) := rfl
  have hG : goodE (w.getD k []) = decide (parsErr (w.getD k []) = 0) := rfl
  refine ⟨fun hlt => ⟨by omega, hsm _ (List.mem_of_getElem? (getD_of_lt (s := w) (d := []) (by omega))), by omega, fun h => hno ?_, fun g1 g2 g3 => ⟨by omega, k + 1, by omega, ⟨by omega, fun i hi => ?_⟩, by omega⟩⟩, fun hge => ?_⟩
  · rw [hen, Bool.true_and, ← Bool.not_eq_true, codGood_iff]
    rintro ⟨_, hall⟩
    have h2 := hall k (by omega)
    rw [hR, hG] at h2
    simp only [Bool.and_eq_true, decide_eq_true_eq, Bool.or_eq_true, Bool.not_eq_true', decide_eq_false_iff_not] at h2
    obtain ⟨j1, j2, j3⟩ := h2
    rcases h with (h | h) | ⟨h, h4⟩
    · exact h j1
    · rw [hlast, hchk, j2] at h; simp at h
    · rw [hlastp] at h
      rw [hpl] at h4
      rcases j3 with j3 | j3
      · exact j3 h
      · exact h4 j3
  · rcases Nat.lt_succ_iff_lt_or_eq.1 hi with hi | rfl
    · exact hn i hi
    · rw [hR, hG, decide_eq_true g1, Bool.true_and]
      rw [hlast, hchk] at g2
      rw [hlast] at g3
      have g2' : decide (i + 1 = w.length) = isChk (w.getD i []) := by
        revert g2
        cases decide (i + 1 = w.length) <;> cases isChk (w.getD i []) <;> simp
      rw [← g2', decide_eq_true (rfl : decide (i + 1 = w.length) = decide (i + 1 = w.length)), Bool.true_and]
      rcases Bool.and_eq_false_iff.1 g3 with g3 | g3
      · rw [g3]; rfl
      · rw [decide_eq_false_iff_not, hpl] at g3
        rw [decide_eq_true (Decidable.not_not.1 g3), Bool.or_true]
  · have hkl : k = w.length := by omega
    have hg : codGood w = true := (codGood_iff w).2 ⟨fun h => by subst h; exact hne rfl, fun i hi => hn i (by omega)⟩
    rw [hB, hE, hen, hg]
    refine ⟨fun h => ?_, fun h => ?_⟩
    · have : ¬ w.length ≤ 1 := by omega
      simp [this]
    · have : w.length ≤ 1 := by omega
      simp [this]
def tb_specChunkedR : List Blk → List AV → Option (List Blk × AV × Prop)
  | [], [a0] => some ([], .tuple [.bool (codB (dec_flds a0)), .int .i64 (codE (dec_flds a0))], ((dec_flds a0).length ≤ 1000) ∧ (∀ f ∈ (dec_flds a0), f.1.length ≤ 1000000) ∧ (∀ f ∈ (dec_flds a0), f.2.length ≤ 900) ∧ argOK a0 (enc_flds (dec_flds a0)))
  | _, _ => none
theorem tb_specChunkedR_ok : ∀ E args E' res p, tb_specChunkedR E args = some (E', res, p) → p → SpecE Try.prog 96 E args E' res := by
  intro E args E' res p h hp
  unfold tb_specChunkedR at h
  split at h
  · simp only [Option.some.injEq, Prod.mk.injEq] at h
    obtain ⟨rfl, rfl, rfl⟩ := h
    exact SpecE.args (specChunkedR _ hp.1 hp.2.1 hp.2.2.1) (.cons hp.2.2.2 .nil)
  · cases h

def T_specTrailersR : Tbl := fun g E args => (addT (addT (addT nilT 200 Go.Proofs.Try.HdrR.tb_specCombined) 36 Go.Proofs.Try.Lists.tb_specSplitR) 52 Go.Proofs.Try.Par.tb_specParseR) g E args
theorem T_specTrailersR_ok : TblOK Try.prog T_specTrailersR := (addT_ok (addT_ok (addT_ok nilT_ok (by decide +kernel) Go.Proofs.Try.HdrR.tb_specCombined_ok) (by decide +kernel) Go.Proofs.Try.Lists.tb_specSplitR_ok) (by decide +kernel) Go.Proofs.Try.Par.tb_specParseR_ok)
set_option maxRecDepth 100000 in
set_option maxHeartbeats 4000000 in
theorem specTrailersR (l : List Fld) (hl : l.length ≤ 1000) (hf : ∀ f ∈ l, f.1.length ≤ 1000000) (hq : ∀ f ∈ l, f.2.length ≤ 900) : SpecE Try.prog 98 [] [enc_flds l] [] (.bool (trailB l)) := by
  refine specF0 (C := T_specTrailersR) (wr := false) (D := fun _ => []) (U := fun _ => none) (res := [.bool (trailB l)]) Try.Ty.mixed T_specTrailersR_ok Try.func98 (nA := 1) (by decide +kernel) rfl (fun _ => rfl) ?_
  simp only [Try.f98, bodyOf, rlOf]
  rw [W_V]
  simp (config := {maxSteps := 2000000}) only [T_specTrailersR, Go.Proofs.Try.HdrR.tb_specCombined, Go.Proofs.Try.Lists.tb_specSplitR, Go.Proofs.Try.Par.tb_specParseR, go_sem, reduceIte, Nat.reduceEqDiff, Nat.reduceAdd, Nat.reduceMul, Nat.reduceSub, Nat.reduceBEq, Nat.reduceLT, Nat.reduceLeDiff, reduceCtorEq, Int.reduceNeg, Int.reduceEq, String.reduceEq, Int.reduceLT, Int.reduceLE, Int.reduceToNat, Int.reduceAdd, Int.reduceMul, Int.reduceSub]
  (try simp (config := {maxSteps := 2000000}) only [gimp, impB, isT, go_sem, reduceIte, Nat.reduceEqDiff, Nat.reduceAdd, Nat.reduceMul, Nat.reduceSub, Nat.reduceBEq, Nat.reduceLT, Nat.reduceLeDiff, reduceCtorEq, Int.reduceNeg, Int.reduceEq, String.reduceEq, Int.reduceLT, Int.reduceLE, Int.reduceToNat, Int.reduceAdd, Int.reduceMul, Int.reduceSub])
  refine ⟨⟨hl, hf, fun f h => by have := hq f h; omega⟩, by have := comb_len3 [84, 69] hl hq; omega, ?_⟩
  have h1 := comb_len3 [84, 69] hl hq
  have hsm : ∀ e ∈ splitS (combS l [84, 69]), e.length ≤ 1000000 := fun e he => by have := (splitS_mem he).1; omega
  have hcnt := splitS_count (combS l [84, 69])
  have hT : trailB l = (splitS (combS l [84, 69])).any fun e => decide (parsName e = wdTrailers) := rfl
  rw [hT]
  generalize splitS (combS l [84, 69]) = w at *
  refine VL_inv (X := Nat) (fun k => ⟨[(5, enc_strs w), (7, .bool ((w.take k).any fun e => decide (parsName e = wdTrailers))), (8, .int .i64 k)], []⟩) (fun k => k ≤ w.length) (fun k => w.length - k) 0 ?_ ?_ ?_
  · simp only [List.take_zero, List.any_nil, go_sem, go_sem, reduceIte, Nat.reduceEqDiff, Nat.reduceAdd, Nat.reduceMul, Nat.reduceSub, Nat.reduceBEq, Nat.reduceLT, Nat.reduceLeDiff, reduceCtorEq, Int.reduceNeg, Int.reduceEq, String.reduceEq, Int.reduceLT, Int.reduceLE, Int.reduceToNat, Int.reduceAdd, Int.reduceMul, Int.reduceSub]
    try rfl
  · exact Nat.zero_le _
  rintro k hk
  simp (config := {maxSteps := 2000000}) only [T_specTrailersR, Go.Proofs.Try.HdrR.tb_specCombined, Go.Proofs.Try.Lists.tb_specSplitR, Go.Proofs.Try.Par.tb_specParseR, go_sem, reduceIte, Nat.reduceEqDiff, Nat.reduceAdd, Nat.reduceMul, Nat.reduceSub, Nat.reduceBEq, Nat.reduceLT, Nat.reduceLeDiff, reduceCtorEq, Int.reduceNeg, Int.reduceEq, String.reduceEq, Int.reduceLT, Int.reduceLE, Int.reduceToNat, Int.reduceAdd, Int.reduceMul, Int.reduceSub]
  (try simp (config := {maxSteps := 2000000}) only [gimp, impB, isT, go_sem, reduceIte, Nat.reduceEqDiff, Nat.reduceAdd, Nat.reduceMul, Nat.reduceSub, Nat.reduceBEq, Nat.reduceLT, Nat.reduceLeDiff, reduceCtorEq, Int.reduceNeg, Int.reduceEq, String.reduceEq, Int.reduceLT, Int.reduceLE, Int.reduceToNat, Int.reduceAdd, Int.reduceMul, Int.reduceSub])
  refine ⟨fun hlt => ⟨by omega, hsm _ (List.mem_of_getElem? (getD_of_lt (s := w) (d := []) (by omega))), by omega, k + 1, ⟨?_, by omega⟩, by omega, by omega⟩, fun hge => ?_⟩
  · rw [take_succ_getD [] (by omega), List.any_append]
    simp only [List.any_cons, List.any_nil, Bool.or_false]; rfl
  · rw [List.take_of_length_le (by omega)]
def tb_specTrailersR : List Blk → List AV → Option (List Blk × AV × Prop)
  | [], [a0] => some ([], .bool (trailB (dec_flds a0)), ((dec_flds a0).length ≤ 1000) ∧ (∀ f ∈ (dec_flds a0), f.1.length ≤ 1000000) ∧ (∀ f ∈ (dec_flds a0), f.2.length ≤ 900) ∧ argOK a0 (enc_flds (dec_flds a0)))
  | _, _ => none
theorem tb_specTrailersR_ok : ∀ E args E' res p, tb_specTrailersR E args = some (E', res, p) → p → SpecE Try.prog 98 E args E' res := by
  intro E args E' res p h hp
  unfold tb_specTrailersR at h
  split at h
  · simp only [Option.some.injEq, Prod.mk.injEq] at h
    obtain ⟨rfl, rfl, rfl⟩ := h
    exact SpecE.args (specTrailersR _ hp.1 hp.2.1 hp.2.2.1) (.cons hp.2.2.2 .nil)
  · cases h

def T_specLives : Tbl := fun g E args => (addT (addT nilT 95 Go.Proofs.Try.Cod.tb_specChunked) 97 Go.Proofs.Try.Cod.tb_specTrailers) g E args
theorem T_specLives_ok : TblOK Try.prog T_specLives := (addT_ok (addT_ok nilT_ok (by decide +kernel) Go.Proofs.Try.Cod.tb_specChunked_ok) (by decide +kernel) Go.Proofs.Try.Cod.tb_specTrailers_ok)
set_option maxRecDepth 100000 in
set_option maxHeartbeats 4000000 in
theorem specLives : SpecE Try.prog 94 [] [] [] (.bool true) := by
  refine specF0 (C := T_specLives) (wr := false) (D := fun _ => []) (U := fun _ => none) (res := [.bool true]) Try.Ty.mixed T_specLives_ok Try.func94 (nA := 0) (by decide +kernel) rfl (fun _ => rfl) ?_
  simp only [Try.f94, bodyOf, rlOf]
  rw [W_V]
  simp (config := {maxSteps := 2000000}) only [T_specLives, Go.Proofs.Try.Cod.tb_specChunked, Go.Proofs.Try.Cod.tb_specTrailers, go_sem, reduceIte, Nat.reduceEqDiff, Nat.reduceAdd, Nat.reduceMul, Nat.reduceSub, Nat.reduceBEq, Nat.reduceLT, Nat.reduceLeDiff, reduceCtorEq, Int.reduceNeg, Int.reduceEq, String.reduceEq, Int.reduceLT, Int.reduceLE, Int.reduceToNat, Int.reduceAdd, Int.reduceMul, Int.reduceSub, dec_fld_mk]
  (try simp (config := {maxSteps := 2000000}) only [gimp, impB, isT, go_sem, reduceIte, Nat.reduceEqDiff, Nat.reduceAdd, Nat.reduceMul, Nat.reduceSub, Nat.reduceBEq, Nat.reduceLT, Nat.reduceLeDiff, reduceCtorEq, Int.reduceNeg, Int.reduceEq, String.reduceEq, Int.reduceLT, Int.reduceLE, Int.reduceToNat, Int.reduceAdd, Int.reduceMul, Int.reduceSub])
  obtain ⟨a1, a2, a3⟩ := tok_pars (s := [67, 104, 117, 110, 107, 101, 100]) (by decide +kernel)
  obtain ⟨b1, b2, b3⟩ := tok_pars (s := [103, 122, 105, 112]) (by decide +kernel)
  obtain ⟨d1, d2, d3⟩ := tok_pars (s := wdChunked) (by decide +kernel)
  obtain ⟨t1, t2, t3⟩ := tok_pars (s := wdTrailers) (by decide +kernel)
  have a4 : isChk [67, 104, 117, 110, 107, 101, 100] = true := by rw [isChk, a2]; decide +kernel
  have b4 : isChk [103, 122, 105, 112] = false := by rw [isChk, b2]; decide +kernel
  have d4 : isChk wdChunked = true := by rw [isChk, d2]; decide +kernel
  obtain ⟨x1, x2⟩ := cod_vals (l := [([84, 114, 97, 110, 115, 102, 101, 114, 45, 69, 110, 99, 111, 100, 105, 110, 103], [67, 104, 117, 110, 107, 101, 100])]) (w := [[67, 104, 117, 110, 107, 101, 100]]) (by decide +kernel) (by decide +kernel) (by decide +kernel)
  obtain ⟨y1, y2⟩ := cod_vals (l := [([116, 114, 97, 110, 115, 102, 101, 114, 45, 101, 110, 99, 111, 100, 105, 110, 103], [103, 122, 105, 112, 44, 32, 99, 104, 117, 110, 107, 101, 100])]) (w := [[103, 122, 105, 112], wdChunked]) (by decide +kernel) (by decide +kernel) (by decide +kernel)
  obtain ⟨z1, z2⟩ := cod_vals (l := [([116, 114, 97, 110, 115, 102, 101, 114, 45, 101, 110, 99, 111, 100, 105, 110, 103], [99, 104, 117, 110, 107, 101, 100, 44, 32, 103, 122, 105, 112])]) (w := [wdChunked, [103, 122, 105, 112]]) (by decide +kernel) (by decide +kernel) (by decide +kernel)
  have g1 : codGood [[67, 104, 117, 110, 107, 101, 100]] = true := by simp [codGood, goodE, a1, a3, a4]
  have g2 : codGood [[103, 122, 105, 112], wdChunked] = true := by simp [codGood, goodE, b1, b4, d1, d3, d4]
  have g3 : codGood [wdChunked, [103, 122, 105, 112]] = false := by simp [codGood, goodE, b1, b4, d1, d3, d4]
  rw [g1] at x1 x2
  rw [g2] at y1 y2
  rw [g3] at z1 z2
  have u : trailB [([84, 69], [97, 44, 32, 116, 114, 97, 105, 108, 101, 114, 115])] = true := by
    have e : splitS (combS [([84, 69], [97, 44, 32, 116, 114, 97, 105, 108, 101, 114, 115])] [84, 69]) = [[97], wdTrailers] := by decide +kernel
    have t4 : lowerS wdTrailers = wdTrailers := by decide +kernel
    rw [trailB, e]
    simp [t2, t4]
  rw [x1, x2, y1, y2, z2, u]
  simp
def tb_specLives : List Blk → List AV → Option (List Blk × AV × Prop)
  | [], [] => some ([], .bool true, True)
  | _, _ => none
theorem tb_specLives_ok : ∀ E args E' res p, tb_specLives E args = some (E', res, p) → p → SpecE Try.prog 94 E args E' res := by
  intro E args E' res p h hp
  unfold tb_specLives at h
  split at h
  · simp only [Option.some.injEq, Prod.mk.injEq] at h
    obtain ⟨rfl, rfl, rfl⟩ := h
    exact specLives
  · cases h

def T_specLawChunked : Tbl := fun g E args => (addT (addT (addT (addT (addT (addT nilT 70 Go.Proofs.Try.HdrR.tb_specFew) 95 Go.Proofs.Try.Cod.tb_specChunked) 96 Go.Proofs.Try.CodR.tb_specChunkedR) 97 Go.Proofs.Try.Cod.tb_specTrailers) 98 Go.Proofs.Try.CodR.tb_specTrailersR) 94 Go.Proofs.Try.CodR.tb_specLives) g E args
theorem T_specLawChunked_ok : TblOK Try.prog T_specLawChunked := (addT_ok (addT_ok (addT_ok (addT_ok (addT_ok (addT_ok nilT_ok (by decide +kernel) Go.Proofs.Try.HdrR.tb_specFew_ok) (by decide +kernel) Go.Proofs.Try.Cod.tb_specChunked_ok) (by decide +kernel) Go.Proofs.Try.CodR.tb_specChunkedR_ok) (by decide +kernel) Go.Proofs.Try.Cod.tb_specTrailers_ok) (by decide +kernel) Go.Proofs.Try.CodR.tb_specTrailersR_ok) (by decide +kernel) Go.Proofs.Try.CodR.tb_specLives_ok)
set_option maxRecDepth 100000 in
set_option maxHeartbeats 4000000 in
theorem specLawChunked (l : List Fld) (hl : l.length ≤ maxLen) : SpecE Try.prog 21 [] [enc_flds l] [] (.bool true) := by
  refine specF0 (C := T_specLawChunked) (wr := false) (D := fun _ => []) (U := fun _ => none) (res := [.bool true]) Try.Ty.mixed T_specLawChunked_ok Try.func21 (nA := 1) (by decide +kernel) rfl (fun _ => rfl) ?_
  simp only [Try.f21, bodyOf, rlOf]
  rw [W_V]
  simp (config := {maxSteps := 2000000}) only [T_specLawChunked, Go.Proofs.Try.HdrR.tb_specFew, Go.Proofs.Try.Cod.tb_specChunked, Go.Proofs.Try.CodR.tb_specChunkedR, Go.Proofs.Try.Cod.tb_specTrailers, Go.Proofs.Try.CodR.tb_specTrailersR, Go.Proofs.Try.CodR.tb_specLives, go_sem, reduceIte, Nat.reduceEqDiff, Nat.reduceAdd, Nat.reduceMul, Nat.reduceSub, Nat.reduceBEq, Nat.reduceLT, Nat.reduceLeDiff, reduceCtorEq, Int.reduceNeg, Int.reduceEq, String.reduceEq, Int.reduceLT, Int.reduceLE, Int.reduceToNat, Int.reduceAdd, Int.reduceMul, Int.reduceSub]
  (try simp (config := {maxSteps := 2000000}) only [gimp, impB, isT, go_sem, reduceIte, Nat.reduceEqDiff, Nat.reduceAdd, Nat.reduceMul, Nat.reduceSub, Nat.reduceBEq, Nat.reduceLT, Nat.reduceLeDiff, reduceCtorEq, Int.reduceNeg, Int.reduceEq, String.reduceEq, Int.reduceLT, Int.reduceLE, Int.reduceToNat, Int.reduceAdd, Int.reduceMul, Int.reduceSub])
  refine ⟨hl, fun hfew => ?_⟩
  obtain ⟨f1, f2⟩ := fewF_len hfew
  have c1 : l.length ≤ 1000 := by omega
  have c3 : ∀ f ∈ l, f.1.length ≤ 1000000 := fun f h => by have := (f2 f h).1; omega
  have c4 : ∀ f ∈ l, f.2.length ≤ 900 := fun f h => by have := (f2 f h).2; omega
  exact ⟨⟨c1, c4⟩, ⟨c1, c3, c4⟩, ⟨c1, c4⟩, c1, c3, c4⟩
def tb_specLawChunked : List Blk → List AV → Option (List Blk × AV × Prop)
  | [], [a0] => some ([], .bool true, ((dec_flds a0).length ≤ maxLen) ∧ argOK a0 (enc_flds (dec_flds a0)))
  | _, _ => none
theorem tb_specLawChunked_ok : ∀ E args E' res p, tb_specLawChunked E args = some (E', res, p) → p → SpecE Try.prog 21 E args E' res := by
  intro E args E' res p h hp
  unfold tb_specLawChunked at h
  split at h
  · simp only [Option.some.injEq, Prod.mk.injEq] at h
    obtain ⟨rfl, rfl, rfl⟩ := h
    exact SpecE.args (specLawChunked _ hp.1) (.cons hp.2 .nil)
  · cases h

def T_specLawOnly : Tbl := fun g E args => (addT (addT (addT (addT nilT 70 Go.Proofs.Try.HdrR.tb_specFew) 95 Go.Proofs.Try.Cod.tb_specChunked) 109 Go.Proofs.Try.Hdr.tb_specWith) 94 Go.Proofs.Try.CodR.tb_specLives) g E args
theorem T_specLawOnly_ok : TblOK Try.prog T_specLawOnly := (addT_ok (addT_ok (addT_ok (addT_ok nilT_ok (by decide +kernel) Go.Proofs.Try.HdrR.tb_specFew_ok) (by decide +kernel) Go.Proofs.Try.Cod.tb_specChunked_ok) (by decide +kernel) Go.Proofs.Try.Hdr.tb_specWith_ok) (by decide +kernel) Go.Proofs.Try.CodR.tb_specLives_ok)
set_option maxRecDepth 100000 in
set_option maxHeartbeats 4000000 in
theorem specLawOnly (l : List Fld) (w : List UInt8) (hl : l.length ≤ maxLen) (hw : w.length ≤ maxLen) : SpecE Try.prog 23 [] [enc_flds l, .str w] [] (.bool true) := by
  refine specF0 (C := T_specLawOnly) (wr := false) (D := fun _ => []) (U := fun _ => none) (res := [.bool true]) Try.Ty.mixed T_specLawOnly_ok Try.func23 (nA := 2) (by decide +kernel) rfl (fun _ => rfl) ?_
  simp only [Try.f23, bodyOf, rlOf]
  rw [W_V]
  simp (config := {maxSteps := 2000000}) only [T_specLawOnly, Go.Proofs.Try.HdrR.tb_specFew, Go.Proofs.Try.Cod.tb_specChunked, Go.Proofs.Try.Hdr.tb_specWith, Go.Proofs.Try.CodR.tb_specLives, go_sem, reduceIte, Nat.reduceEqDiff, Nat.reduceAdd, Nat.reduceMul, Nat.reduceSub, Nat.reduceBEq, Nat.reduceLT, Nat.reduceLeDiff, reduceCtorEq, Int.reduceNeg, Int.reduceEq, String.reduceEq, Int.reduceLT, Int.reduceLE, Int.reduceToNat, Int.reduceAdd, Int.reduceMul, Int.reduceSub, dec_fld_mk]
  (try simp (config := {maxSteps := 2000000}) only [gimp, impB, isT, go_sem, reduceIte, Nat.reduceEqDiff, Nat.reduceAdd, Nat.reduceMul, Nat.reduceSub, Nat.reduceBEq, Nat.reduceLT, Nat.reduceLeDiff, reduceCtorEq, Int.reduceNeg, Int.reduceEq, String.reduceEq, Int.reduceLT, Int.reduceLE, Int.reduceToNat, Int.reduceAdd, Int.reduceMul, Int.reduceSub])
  refine ⟨hl, fun hfew hw2 => ?_⟩
  obtain ⟨f1, f2⟩ := fewF_len hfew
  have c1 : l.length ≤ 1000 := by omega
  have c3 : ∀ f ∈ l, f.1.length ≤ 1000000 := fun f h => by have := (f2 f h).1; omega
  have c4 : ∀ f ∈ l, f.2.length ≤ 900 := fun f h => by have := (f2 f h).2; omega
  have e1 : List.take (1 + l.length) (AV.agg [AV.str nmTE, AV.str [103, 122, 105, 112]] :: List.map enc_fld l) = List.map enc_fld ((nmTE, [103, 122, 105, 112]) :: l) := by
    rw [List.take_of_length_le (by simp; omega)]; rfl
  rw [show [84, 114, 97, 110, 115, 102, 101, 114, 45, 69, 110, 99, 111, 100, 105, 110, 103] = nmTE from rfl, List.take_length, e1]
  refine ⟨⟨c1, c4⟩, fun h => ?_, fun h1 h2 => ?_⟩
  · rcases h with h | h
    · exact h
    · exact cod_err h
  obtain ⟨y1, y2, y3⟩ := cod_yes h1
  obtain ⟨m1, m2⟩ := cod_more w y1 y2 y3
  obtain ⟨z1, z2⟩ := cod_gzip y1 y2 y3
  rw [m1, m2, map_fld, z1, z2]
  refine ⟨by omega, by omega, ⟨by simp [withS]; omega, fun f h => ?_⟩, ⟨by omega, by omega⟩, ⟨by omega, by simp; omega, fun f h => ?_, rfl⟩, ⟨⟨rfl, rfl⟩, rfl⟩, rfl⟩
  · simp only [withS, List.mem_append, List.mem_singleton] at h
    rcases h with h | rfl
    · exact c4 f h
    · simp only [List.length_cons]; omega
  · rcases List.mem_cons.1 h with rfl | h
    · decide
    · exact c4 f h
def tb_specLawOnly : List Blk → List AV → Option (List Blk × AV × Prop)
  | [], [a0, .str w] => some ([], .bool true, ((dec_flds a0).length ≤ maxLen) ∧ (w.length ≤ maxLen) ∧ argOK a0 (enc_flds (dec_flds a0)))
  | _, _ => none
theorem tb_specLawOnly_ok : ∀ E args E' res p, tb_specLawOnly E args = some (E', res, p) → p → SpecE Try.prog 23 E args E' res := by
  intro E args E' res p h hp
  unfold tb_specLawOnly at h
  split at h
  · simp only [Option.some.injEq, Prod.mk.injEq] at h
    obtain ⟨rfl, rfl, rfl⟩ := h
    exact SpecE.args (specLawOnly _ _ hp.1 hp.2.1) (.cons hp.2.2 (.cons (argOK.refl _) .nil))
  · cases h
end Go.Proofs.Try.CodR
