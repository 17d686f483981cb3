/- connection: the walks of the document's answer, and of the statements. No condition beyond those that a machine's numbers bring. -/
import Derived.Test.YtanpmebamgnhbaaCon
import Derived.Test.YtanpmebamgnhbaaListsR
set_option linter.unusedVariables false
set_option linter.unusedSimpArgs false
namespace Go.Proofs.Try.ConR
open Go Go.Abs Go.Proofs Go.Mdl

def T_specWordsR : Tbl := fun g E args => (addT (addT (addT (addT nilT 200 Go.Proofs.Try.HdrR.tb_specCombined) 36 Go.Proofs.Try.Lists.tb_specSplitR) 166 Go.Proofs.Try.Oct.tb_specTokenR) 50 Go.Proofs.Try.Oct.tb_specLowerR) g E args
theorem T_specWordsR_ok : TblOK Try.prog T_specWordsR := (addT_ok (addT_ok (addT_ok (addT_ok nilT_ok (by decide +kernel) Go.Proofs.Try.HdrR.tb_specCombined_ok) (by decide +kernel) Go.Proofs.Try.Lists.tb_specSplitR_ok) (by decide +kernel) Go.Proofs.Try.Oct.tb_specTokenR_ok) (by decide +kernel) Go.Proofs.Try.Oct.tb_specLowerR_ok)
set_option maxRecDepth 100000 in
set_option maxHeartbeats 4000000 in
theorem specWordsR (l : List Fld) (hl : l.length ≤ 1000) (hf : ∀ f ∈ l, f.1.length ≤ 1000000) (hq : ∀ f ∈ l, f.2.length ≤ 900) : SpecE Try.prog 129 [] [enc_flds l] [] (.tuple [enc_strs (conW l), .int .i64 (conE l)]) := by
  refine specF0 (C := T_specWordsR) (wr := false) (D := fun _ => []) (U := fun _ => none) (res := [enc_strs (conW l), .int .i64 (conE l)]) Try.Ty.mixed T_specWordsR_ok Try.func129 (nA := 1) (by decide +kernel) rfl (fun _ => rfl) ?_
  simp only [Try.f129, bodyOf, rlOf]
  rw [W_V]
  simp (config := {maxSteps := 2000000}) only [T_specWordsR, Go.Proofs.Try.HdrR.tb_specCombined, Go.Proofs.Try.Lists.tb_specSplitR, Go.Proofs.Try.Oct.tb_specTokenR, Go.Proofs.Try.Oct.tb_specLowerR, go_sem, reduceIte, Nat.reduceEqDiff, Nat.reduceAdd, Nat.reduceMul, Nat.reduceSub, Nat.reduceBEq, Nat.reduceLT, Nat.reduceLeDiff, reduceCtorEq, Int.reduceNeg, Int.reduceEq, String.reduceEq, Int.reduceLT, Int.reduceLE, Int.reduceToNat, Int.reduceAdd, Int.reduceMul, Int.reduceSub]
  (try simp (config := {maxSteps := 2000000}) only [gimp, impB, isT, go_sem, reduceIte, Nat.reduceEqDiff, Nat.reduceAdd, Nat.reduceMul, Nat.reduceSub, Nat.reduceBEq, Nat.reduceLT, Nat.reduceLeDiff, reduceCtorEq, Int.reduceNeg, Int.reduceEq, String.reduceEq, Int.reduceLT, Int.reduceLE, Int.reduceToNat, Int.reduceAdd, Int.reduceMul, Int.reduceSub])
  have hcomb : (combS l [67, 111, 110, 110, 101, 99, 116, 105, 111, 110]).length ≤ 902000 := comb_len3 _ hl hq
  have hW : conW l = wordsS (combS l [67, 111, 110, 110, 101, 99, 116, 105, 111, 110]) := rfl
  have hE : conE l = if wordsOk (combS l [67, 111, 110, 110, 101, 99, 116, 105, 111, 110]) = true then 0 else 3 := rfl
  rw [hW, hE]
  generalize combS l [67, 111, 110, 110, 101, 99, 116, 105, 111, 110] = s at *
  have hcnt := splitS_count s
  have hsm : ∀ e ∈ splitS s, e.length ≤ s.length := fun e he => (splitS_mem he).1
  refine ⟨⟨hl, hf, fun f h => by have := hq f h; omega⟩, by omega, fun hend => ?_, fun hend => ?_⟩
  · have hno : wordsOk s = false := by simp [wordsOk, hend]
    simp [wordsS, hno]
  have hok : wordsOk s = (splitS s).all tokenS := by simp [wordsOk, hend]
  have hws : wordsS s = if wordsOk s = true then (splitS s).map lowerS else [] := rfl
  rw [hws, hok]
  generalize splitS s = w at *
  refine VL_inv (X := Nat) (fun k => ⟨[(6, enc_strs w), (8, .ref 368 0 (w.take k).length (w.take k).length), (9, .int .i64 k)], [(368, .cells 1 false (.str []) (((w.take k).map lowerS).map .str))]⟩) (fun k => k ≤ w.length ∧ (w.take k).all tokenS = true) (fun k => w.length - k) 0 ?_ ?_ ?_
  · simp only [List.take_zero, List.map_nil, go_sem, go_sem, reduceIte, Nat.reduceEqDiff, Nat.reduceAdd, Nat.reduceMul, Nat.reduceSub, Nat.reduceBEq, Nat.reduceLT, Nat.reduceLeDiff, reduceCtorEq, Int.reduceNeg, Int.reduceEq, String.reduceEq, Int.reduceLT, Int.reduceLE, Int.reduceToNat, Int.reduceAdd, Int.reduceMul, Int.reduceSub]
    try rfl
  · exact ⟨Nat.zero_le _, by simp⟩
  rintro k ⟨hk, hn⟩
  have hlk : (w.take k).length = k := by rw [List.length_take]; omega
  simp (config := {maxSteps := 2000000}) only [T_specWordsR, Go.Proofs.Try.HdrR.tb_specCombined, Go.Proofs.Try.Lists.tb_specSplitR, Go.Proofs.Try.Oct.tb_specTokenR, Go.Proofs.Try.Oct.tb_specLowerR, go_sem, reduceIte, Nat.reduceEqDiff, Nat.reduceAdd, Nat.reduceMul, Nat.reduceSub, Nat.reduceBEq, Nat.reduceLT, Nat.reduceLeDiff, reduceCtorEq, Int.reduceNeg, Int.reduceEq, String.reduceEq, Int.reduceLT, Int.reduceLE, Int.reduceToNat, Int.reduceAdd, Int.reduceMul, Int.reduceSub]
  (try simp (config := {maxSteps := 2000000}) only [gimp, impB, isT, go_sem, reduceIte, Nat.reduceEqDiff, Nat.reduceAdd, Nat.reduceMul, Nat.reduceSub, Nat.reduceBEq, Nat.reduceLT, Nat.reduceLeDiff, reduceCtorEq, Int.reduceNeg, Int.reduceEq, String.reduceEq, Int.reduceLT, Int.reduceLE, Int.reduceToNat, Int.reduceAdd, Int.reduceMul, Int.reduceSub])
  have hmem := fun h : k < w.length => List.mem_of_getElem? (getD_of_lt (s := w) (d := []) h)
  have ht := fun h : k < w.length => take_succ_getD (s := w) [] h
  refine ⟨fun hlt => ?_, fun hge => ?_⟩
  · have hm := hmem (by omega)
    have h1 := hsm _ hm
    refine ⟨by omega, by omega, fun hno => ?_, fun hy => ⟨by omega, by omega, by omega, by omega, k + 1, ⟨⟨?_, by omega⟩, ?_⟩, ⟨by omega, ?_⟩, by omega⟩⟩
    · have : w.all tokenS = false := List.all_eq_false.2 ⟨_, hm, by rw [hno]; simp⟩
      rw [this]; exact ⟨rfl, rfl⟩
    · rw [ht (by omega)]; simp
    · rw [ht (by omega)]; simp
    · rw [ht (by omega), List.all_append, hn]; simpa using hy
  · have : k = w.length := by omega
    subst this
    rw [List.take_length] at hn ⊢
    rw [hn, if_pos rfl, if_pos rfl, List.take_of_length_le (by simp)]
    exact ⟨rfl, rfl⟩
def tb_specWordsR : List Blk → List AV → Option (List Blk × AV × Prop)
  | [], [a0] => some ([], .tuple [enc_strs (conW (dec_flds a0)), .int .i64 (conE (dec_flds a0))], ((dec_flds a0).length ≤ 1000) ∧ (∀ f ∈ (dec_flds a0), f.1.length ≤ 1000000) ∧ (∀ f ∈ (dec_flds a0), f.2.length ≤ 900) ∧ argOK a0 (enc_flds (dec_flds a0)))
  | _, _ => none
theorem tb_specWordsR_ok : ∀ E args E' res p, tb_specWordsR E args = some (E', res, p) → p → SpecE Try.prog 129 E args E' res := by
  intro E args E' res p h hp
  unfold tb_specWordsR at h
  split at h
  · simp only [Option.some.injEq, Prod.mk.injEq] at h
    obtain ⟨rfl, rfl, rfl⟩ := h
    exact SpecE.args (specWordsR _ hp.1 hp.2.1 hp.2.2.1) (.cons hp.2.2.2 .nil)
  · cases h

def T_specHasR : Tbl := fun g E args => (addT (addT nilT 129 Go.Proofs.Try.ConR.tb_specWordsR) 50 Go.Proofs.Try.Oct.tb_specLowerR) g E args
theorem T_specHasR_ok : TblOK Try.prog T_specHasR := (addT_ok (addT_ok nilT_ok (by decide +kernel) Go.Proofs.Try.ConR.tb_specWordsR_ok) (by decide +kernel) Go.Proofs.Try.Oct.tb_specLowerR_ok)
set_option maxRecDepth 100000 in
set_option maxHeartbeats 4000000 in
theorem specHasR (l : List Fld) (w : List UInt8) (hl : l.length ≤ 1000) (hf : ∀ f ∈ l, f.1.length ≤ 1000000) (hq : ∀ f ∈ l, f.2.length ≤ 900) (hw : w.length ≤ 1000000) : SpecE Try.prog 130 [] [enc_flds l, .str w] [] (.bool (conHas l w)) := by
  refine specF0 (C := T_specHasR) (wr := false) (D := fun _ => []) (U := fun _ => none) (res := [.bool (conHas l w)]) Try.Ty.mixed T_specHasR_ok Try.func130 (nA := 2) (by decide +kernel) rfl (fun _ => rfl) ?_
  simp only [Try.f130, bodyOf, rlOf]
  rw [W_V]
  simp (config := {maxSteps := 2000000}) only [T_specHasR, Go.Proofs.Try.ConR.tb_specWordsR, Go.Proofs.Try.Oct.tb_specLowerR, go_sem, reduceIte, Nat.reduceEqDiff, Nat.reduceAdd, Nat.reduceMul, Nat.reduceSub, Nat.reduceBEq, Nat.reduceLT, Nat.reduceLeDiff, reduceCtorEq, Int.reduceNeg, Int.reduceEq, String.reduceEq, Int.reduceLT, Int.reduceLE, Int.reduceToNat, Int.reduceAdd, Int.reduceMul, Int.reduceSub]
  (try simp (config := {maxSteps := 2000000}) only [gimp, impB, isT, go_sem, reduceIte, Nat.reduceEqDiff, Nat.reduceAdd, Nat.reduceMul, Nat.reduceSub, Nat.reduceBEq, Nat.reduceLT, Nat.reduceLeDiff, reduceCtorEq, Int.reduceNeg, Int.reduceEq, String.reduceEq, Int.reduceLT, Int.reduceLE, Int.reduceToNat, Int.reduceAdd, Int.reduceMul, Int.reduceSub])
  refine ⟨⟨hl, hf, hq⟩, ?_⟩
  have hP : conHas l w = inL (conW l) (lowerS w) := rfl
  rw [hP]
  have hcnt : (conW l).length ≤ 902001 := by
    have h1 := wordsS_count (combS l nmConnection)
    have h2 := comb_len3 nmConnection hl hq
    unfold conW; omega
  generalize conW l = W at *
  refine VL_inv (X := Nat) (fun k => ⟨[(1, .str w), (5, enc_strs W), (7, .int .i64 k)], []⟩) (fun k => k ≤ W.length ∧ inL (W.take k) (lowerS w) = false) (fun k => W.length - k) 0 ?_ ?_ ?_
  · simp only [go_sem, go_sem, reduceIte, Nat.reduceEqDiff, Nat.reduceAdd, Nat.reduceMul, Nat.reduceSub, Nat.reduceBEq, Nat.reduceLT, Nat.reduceLeDiff, reduceCtorEq, Int.reduceNeg, Int.reduceEq, String.reduceEq, Int.reduceLT, Int.reduceLE, Int.reduceToNat, Int.reduceAdd, Int.reduceMul, Int.reduceSub]
    try rfl
  · exact ⟨Nat.zero_le _, by simp [inL]⟩
  rintro k ⟨hk, hn⟩
  simp (config := {maxSteps := 2000000}) only [T_specHasR, Go.Proofs.Try.ConR.tb_specWordsR, Go.Proofs.Try.Oct.tb_specLowerR, go_sem, reduceIte, Nat.reduceEqDiff, Nat.reduceAdd, Nat.reduceMul, Nat.reduceSub, Nat.reduceBEq, Nat.reduceLT, Nat.reduceLeDiff, reduceCtorEq, Int.reduceNeg, Int.reduceEq, String.reduceEq, Int.reduceLT, Int.reduceLE, Int.reduceToNat, Int.reduceAdd, Int.reduceMul, Int.reduceSub]
  (try simp (config := {maxSteps := 2000000}) only [gimp, impB, isT, go_sem, reduceIte, Nat.reduceEqDiff, Nat.reduceAdd, Nat.reduceMul, Nat.reduceSub, Nat.reduceBEq, Nat.reduceLT, Nat.reduceLeDiff, reduceCtorEq, Int.reduceNeg, Int.reduceEq, String.reduceEq, Int.reduceLT, Int.reduceLE, Int.reduceToNat, Int.reduceAdd, Int.reduceMul, Int.reduceSub])
  refine ⟨fun hlt => ⟨by omega, hw, fun he => ?_, fun hne => ⟨by omega, k + 1, by omega, ⟨by omega, ?_⟩, by omega⟩⟩, fun hge => ?_⟩
  · symm; rw [inL_iff, ← he]; exact List.mem_of_getElem? (getD_of_lt (s := W) (d := []) (by omega))
  · rw [take_succ_getD [] (by omega)]
    simp only [inL, List.any_append, List.any_cons, List.any_nil, Bool.or_false] at hn ⊢
    rw [hn, decide_eq_false hne]; rfl
  · have : k = W.length := by omega
    subst this
    rw [List.take_length] at hn
    exact hn.symm
def tb_specHasR : List Blk → List AV → Option (List Blk × AV × Prop)
  | [], [a0, .str w] => some ([], .bool (conHas (dec_flds a0) w), ((dec_flds a0).length ≤ 1000) ∧ (∀ f ∈ (dec_flds a0), f.1.length ≤ 1000000) ∧ (∀ f ∈ (dec_flds a0), f.2.length ≤ 900) ∧ (w.length ≤ 1000000) ∧ argOK a0 (enc_flds (dec_flds a0)))
  | _, _ => none
theorem tb_specHasR_ok : ∀ E args E' res p, tb_specHasR E args = some (E', res, p) → p → SpecE Try.prog 130 E args E' res := by
  intro E args E' res p h hp
  unfold tb_specHasR at h
  split at h
  · simp only [Option.some.injEq, Prod.mk.injEq] at h
    obtain ⟨rfl, rfl, rfl⟩ := h
    exact SpecE.args (specHasR _ _ hp.1 hp.2.1 hp.2.2.1 hp.2.2.2.1) (.cons hp.2.2.2.2 (.cons (argOK.refl _) .nil))
  · cases h

def T_specPersistsR : Tbl := fun g E args => (addT (addT nilT 129 Go.Proofs.Try.ConR.tb_specWordsR) 130 Go.Proofs.Try.ConR.tb_specHasR) g E args
theorem T_specPersistsR_ok : TblOK Try.prog T_specPersistsR := (addT_ok (addT_ok nilT_ok (by decide +kernel) Go.Proofs.Try.ConR.tb_specWordsR_ok) (by decide +kernel) Go.Proofs.Try.ConR.tb_specHasR_ok)
set_option maxRecDepth 100000 in
set_option maxHeartbeats 4000000 in
theorem specPersistsR (m : Int) (l : List Fld) (hl : l.length ≤ 1000) (hf : ∀ f ∈ l, f.1.length ≤ 1000000) (hq : ∀ f ∈ l, f.2.length ≤ 900) : SpecE Try.prog 132 [] [.int .i64 m, enc_flds l] [] (.bool (conPer m l)) := by
  refine specF0 (C := T_specPersistsR) (wr := false) (D := fun _ => []) (U := fun _ => none) (res := [.bool (conPer m l)]) Try.Ty.mixed T_specPersistsR_ok Try.func132 (nA := 2) (by decide +kernel) rfl (fun _ => rfl) ?_
  simp only [Try.f132, bodyOf, rlOf]
  rw [W_V]
  simp (config := {maxSteps := 2000000}) only [T_specPersistsR, Go.Proofs.Try.ConR.tb_specWordsR, Go.Proofs.Try.ConR.tb_specHasR, go_sem, reduceIte, Nat.reduceEqDiff, Nat.reduceAdd, Nat.reduceMul, Nat.reduceSub, Nat.reduceBEq, Nat.reduceLT, Nat.reduceLeDiff, reduceCtorEq, Int.reduceNeg, Int.reduceEq, String.reduceEq, Int.reduceLT, Int.reduceLE, Int.reduceToNat, Int.reduceAdd, Int.reduceMul, Int.reduceSub]
  (try simp (config := {maxSteps := 2000000}) only [gimp, impB, isT, go_sem, reduceIte, Nat.reduceEqDiff, Nat.reduceAdd, Nat.reduceMul, Nat.reduceSub, Nat.reduceBEq, Nat.reduceLT, Nat.reduceLeDiff, reduceCtorEq, Int.reduceNeg, Int.reduceEq, String.reduceEq, Int.reduceLT, Int.reduceLE, Int.reduceToNat, Int.reduceAdd, Int.reduceMul, Int.reduceSub])
  have e0 : conE l = 0 ↔ conOk l = true := by unfold conE; cases conOk l <;> simp
  have k1 : conHas l [99, 108, 111, 115, 101] = inL (conW l) wdClose := rfl
  have k2 : conHas l [107, 101, 101, 112, 45, 97, 108, 105, 118, 101] = inL (conW l) wdKeep := rfl
  have hP : conPer m l = (conOk l && (!inL (conW l) wdClose && (decide (0 < m) || inL (conW l) wdKeep))) := rfl
  rw [hP, e0, k1, k2]
  refine ⟨⟨hl, hf, hq⟩, ⟨fun _ => hl, fun _ => hf, fun _ => hq⟩, fun h => ?_, fun h1 h2 => ⟨⟨fun _ => hl, fun _ => hf, fun _ => hq⟩, ?_⟩⟩
  · rcases h with h | h
    · rw [Bool.eq_false_iff.2 h]; rfl
    · rw [h]; simp
  · rw [h1, h2]; rfl
def tb_specPersistsR : List Blk → List AV → Option (List Blk × AV × Prop)
  | [], [.int .i64 m, a1] => some ([], .bool (conPer m (dec_flds a1)), ((dec_flds a1).length ≤ 1000) ∧ (∀ f ∈ (dec_flds a1), f.1.length ≤ 1000000) ∧ (∀ f ∈ (dec_flds a1), f.2.length ≤ 900) ∧ argOK a1 (enc_flds (dec_flds a1)))
  | _, _ => none
theorem tb_specPersistsR_ok : ∀ E args E' res p, tb_specPersistsR E args = some (E', res, p) → p → SpecE Try.prog 132 E args E' res := by
  intro E args E' res p h hp
  unfold tb_specPersistsR at h
  split at h
  · simp only [Option.some.injEq, Prod.mk.injEq] at h
    obtain ⟨rfl, rfl, rfl⟩ := h
    exact SpecE.args (specPersistsR _ _ hp.1 hp.2.1 hp.2.2.1) (.cons (argOK.refl _) (.cons hp.2.2.2 .nil))
  · cases h

def T_specAliveR : Tbl := fun g E args => (addT (addT (addT (addT (addT nilT 200 Go.Proofs.Try.HdrR.tb_specCombined) 36 Go.Proofs.Try.Lists.tb_specSplitR) 144 Go.Proofs.Try.Oct.tb_specTrimR) 50 Go.Proofs.Try.Oct.tb_specLowerR) 59 Go.Proofs.Try.Dig.tb_specNumberR) g E args
theorem T_specAliveR_ok : TblOK Try.prog T_specAliveR := (addT_ok (addT_ok (addT_ok (addT_ok (addT_ok nilT_ok (by decide +kernel) Go.Proofs.Try.HdrR.tb_specCombined_ok) (by decide +kernel) Go.Proofs.Try.Lists.tb_specSplitR_ok) (by decide +kernel) Go.Proofs.Try.Oct.tb_specTrimR_ok) (by decide +kernel) Go.Proofs.Try.Oct.tb_specLowerR_ok) (by decide +kernel) Go.Proofs.Try.Dig.tb_specNumberR_ok)
set_option maxRecDepth 100000 in
set_option maxHeartbeats 4000000 in
theorem specAliveR (l : List Fld) (hl : l.length ≤ 1000) (hf : ∀ f ∈ l, f.1.length ≤ 1000000) (hq : ∀ f ∈ l, f.2.length ≤ 900) : SpecE Try.prog 134 [] [enc_flds l] [] (.tuple [.agg [.int .i64 (aliveT l), .int .i64 (aliveM l)], .bool (aliveOk l)]) := by
  refine specF0 (C := T_specAliveR) (wr := false) (D := fun _ => []) (U := fun _ => none) (res := [.agg [.int .i64 (aliveT l), .int .i64 (aliveM l)], .bool (aliveOk l)]) Try.Ty.mixed T_specAliveR_ok Try.func134 (nA := 1) (by decide +kernel) rfl (fun _ => rfl) ?_
  simp only [Try.f134, bodyOf, rlOf]
  rw [W_V]
  simp (config := {maxSteps := 2000000}) only [T_specAliveR, Go.Proofs.Try.HdrR.tb_specCombined, Go.Proofs.Try.Lists.tb_specSplitR, Go.Proofs.Try.Oct.tb_specTrimR, Go.Proofs.Try.Oct.tb_specLowerR, Go.Proofs.Try.Dig.tb_specNumberR, go_sem, reduceIte, Nat.reduceEqDiff, Nat.reduceAdd, Nat.reduceMul, Nat.reduceSub, Nat.reduceBEq, Nat.reduceLT, Nat.reduceLeDiff, reduceCtorEq, Int.reduceNeg, Int.reduceEq, String.reduceEq, Int.reduceLT, Int.reduceLE, Int.reduceToNat, Int.reduceAdd, Int.reduceMul, Int.reduceSub]
  (try simp (config := {maxSteps := 2000000}) only [gimp, impB, isT, go_sem, reduceIte, Nat.reduceEqDiff, Nat.reduceAdd, Nat.reduceMul, Nat.reduceSub, Nat.reduceBEq, Nat.reduceLT, Nat.reduceLeDiff, reduceCtorEq, Int.reduceNeg, Int.reduceEq, String.reduceEq, Int.reduceLT, Int.reduceLE, Int.reduceToNat, Int.reduceAdd, Int.reduceMul, Int.reduceSub])
  rw [show [75, 101, 101, 112, 45, 65, 108, 105, 118, 101] = nmKeepAlive from rfl]
  have hcomb : (combS l nmKeepAlive).length ≤ 902000 := comb_len3 _ hl hq
  have hcnt := splitS_count (combS l nmKeepAlive)
  have hsm : ∀ e ∈ splitS (combS l nmKeepAlive), e.length ≤ (combS l nmKeepAlive).length := fun e he => (splitS_mem he).1
  have hnil : endsS (combS l nmKeepAlive) = false → splitS (combS l nmKeepAlive) = [] := fun h => by simp [splitS, h]
  have hok : aliveOk l = (!decide (allS l nmKeepAlive = []) && (endsS (combS l nmKeepAlive) && (aliveF (splitS (combS l nmKeepAlive))).2.2)) := by rw [aliveOk, hasF_iff]
  have hT : aliveT l = if aliveOk l = true then (aliveF (splitS (combS l nmKeepAlive))).1 else 0 := rfl
  have hM : aliveM l = if aliveOk l = true then (aliveF (splitS (combS l nmKeepAlive))).2.1 else 0 := rfl
  refine ⟨⟨hl, hf, fun f h => by have := hq f h; omega⟩, by omega, ?_⟩
  generalize hTT : aliveT l = tT at *
  generalize hMM : aliveM l = tM at *
  generalize hOO : aliveOk l = tO at *
  generalize splitS (combS l nmKeepAlive) = w at *
  generalize endsS (combS l nmKeepAlive) = en at *
  refine VL_inv (X := Nat) (fun k => ⟨[(2, .ptr 48 0 0 1), (5, .bool (!decide (allS l nmKeepAlive = []))), (6, enc_strs w), (7, .bool (en && (aliveF (w.take k)).2.2)), (8, .ptr 144 0 0 1), (9, .int .i64 k)], [(144, .cells 2 false (.agg [.int .i64 0, .int .i64 0]) [.agg [.int .i64 (aliveF (w.take k)).1, .int .i64 (aliveF (w.take k)).2.1]]), (48, .cells 2 false (.agg [.int .i64 0, .int .i64 0]) [.agg [.int .i64 0, .int .i64 0]])]⟩) (fun k => k ≤ w.length) (fun k => w.length - k) 0 ?_ ?_ ?_
  · simp only [aliveF, List.take_zero, List.foldl_nil, Bool.and_true, go_sem, go_sem, reduceIte, Nat.reduceEqDiff, Nat.reduceAdd, Nat.reduceMul, Nat.reduceSub, Nat.reduceBEq, Nat.reduceLT, Nat.reduceLeDiff, reduceCtorEq, Int.reduceNeg, Int.reduceEq, String.reduceEq, Int.reduceLT, Int.reduceLE, Int.reduceToNat, Int.reduceAdd, Int.reduceMul, Int.reduceSub]
    try rfl
  · exact Nat.zero_le _
  rintro k hk
  simp (config := {maxSteps := 2000000}) only [T_specAliveR, Go.Proofs.Try.HdrR.tb_specCombined, Go.Proofs.Try.Lists.tb_specSplitR, Go.Proofs.Try.Oct.tb_specTrimR, Go.Proofs.Try.Oct.tb_specLowerR, Go.Proofs.Try.Dig.tb_specNumberR, go_sem, reduceIte, Nat.reduceEqDiff, Nat.reduceAdd, Nat.reduceMul, Nat.reduceSub, Nat.reduceBEq, Nat.reduceLT, Nat.reduceLeDiff, reduceCtorEq, Int.reduceNeg, Int.reduceEq, String.reduceEq, Int.reduceLT, Int.reduceLE, Int.reduceToNat, Int.reduceAdd, Int.reduceMul, Int.reduceSub]
  (try simp (config := {maxSteps := 2000000}) only [gimp, impB, isT, go_sem, reduceIte, Nat.reduceEqDiff, Nat.reduceAdd, Nat.reduceMul, Nat.reduceSub, Nat.reduceBEq, Nat.reduceLT, Nat.reduceLeDiff, reduceCtorEq, Int.reduceNeg, Int.reduceEq, String.reduceEq, Int.reduceLT, Int.reduceLE, Int.reduceToNat, Int.reduceAdd, Int.reduceMul, Int.reduceSub])
  have hstep := fun h : k < w.length => aliveF_take_succ (l := w) h
  refine ⟨fun hlt hen hgood => ?_, fun hend => ?_⟩
  · have hmem : (w.getD k []).length ≤ 902000 := by have := hsm _ (List.mem_of_getElem? (getD_of_lt (s := w) (d := []) (show k < w.length by omega))); omega
    have hstep2 := hstep (by omega)
    have hm : (902000 : Nat) ≤ maxLen := by decide
    refine VL_inv (X := Nat) (fun j => ⟨[(2, .ptr 48 0 0 1), (5, .bool (!decide (allS l nmKeepAlive = []))), (6, enc_strs w), (7, .bool true), (8, .ptr 144 0 0 1), (9, .int .i64 k), (10, .int .i64 j)], [(144, .cells 2 false (.agg [.int .i64 0, .int .i64 0]) [.agg [.int .i64 (aliveF (w.take k)).1, .int .i64 (aliveF (w.take k)).2.1]]), (48, .cells 2 false (.agg [.int .i64 0, .int .i64 0]) [.agg [.int .i64 0, .int .i64 0]])]⟩) (fun j => j ≤ (w.getD k []).length ∧ ((w.getD k []).take j).all (fun b => !decide (b = 61)) = true) (fun j => (w.getD k []).length - j) 0 ?_ ?_ ?_
    · simp only [hen, hgood, Bool.and_true, go_sem, go_sem, reduceIte, Nat.reduceEqDiff, Nat.reduceAdd, Nat.reduceMul, Nat.reduceSub, Nat.reduceBEq, Nat.reduceLT, Nat.reduceLeDiff, reduceCtorEq, Int.reduceNeg, Int.reduceEq, String.reduceEq, Int.reduceLT, Int.reduceLE, Int.reduceToNat, Int.reduceAdd, Int.reduceMul, Int.reduceSub]
      try rfl
    · exact ⟨Nat.zero_le _, by simp⟩
    rintro j ⟨hj, hjn⟩
    simp (config := {maxSteps := 2000000}) only [T_specAliveR, Go.Proofs.Try.HdrR.tb_specCombined, Go.Proofs.Try.Lists.tb_specSplitR, Go.Proofs.Try.Oct.tb_specTrimR, Go.Proofs.Try.Oct.tb_specLowerR, Go.Proofs.Try.Dig.tb_specNumberR, go_sem, reduceIte, Nat.reduceEqDiff, Nat.reduceAdd, Nat.reduceMul, Nat.reduceSub, Nat.reduceBEq, Nat.reduceLT, Nat.reduceLeDiff, reduceCtorEq, Int.reduceNeg, Int.reduceEq, String.reduceEq, Int.reduceLT, Int.reduceLE, Int.reduceToNat, Int.reduceAdd, Int.reduceMul, Int.reduceSub]
    (try simp (config := {maxSteps := 2000000}) only [gimp, impB, isT, go_sem, reduceIte, Nat.reduceEqDiff, Nat.reduceAdd, Nat.reduceMul, Nat.reduceSub, Nat.reduceBEq, Nat.reduceLT, Nat.reduceLeDiff, reduceCtorEq, Int.reduceNeg, Int.reduceEq, String.reduceEq, Int.reduceLT, Int.reduceLE, Int.reduceToNat, Int.reduceAdd, Int.reduceMul, Int.reduceSub])
    generalize w.getD k [] = e at *
    generalize aliveF (w.take k) = T at *
    have hdl : (e.drop (j + 1)).length ≤ e.length := by rw [List.length_drop]; omega
    have htl : (e.take j).length ≤ e.length := by rw [List.length_take]; omega
    have ht1 := trimS_len (e.take j)
    have ht2 := trimS_len (e.drop (j + 1))
    refine ⟨by omega, ⟨fun _ => by omega, fun _ => by omega⟩, fun _ => by omega, fun h1 h2 => ⟨by omega, j + 1, by omega, ⟨by omega, ?_⟩, by omega⟩, fun hstop => ?_⟩
    · rw [take_succ_getD 0 (by omega), List.all_append, hjn]
      simp only [List.all_cons, List.all_nil, Bool.and_true, Bool.true_and, Bool.not_eq_true', decide_eq_false_iff_not]
      exact h2
    have hu : j = upTo 61 e := upTo_stop hj hjn (fun h => by
      have hd : decide ((j : Int) < (e.length : Int)) = true := by rw [decide_eq_true_eq]; omega
      rw [hd, Bool.true_and, Bool.not_eq_false', decide_eq_true_eq] at hstop
      exact hstop)
    subst hu
    refine ⟨by omega, fun h1 => ⟨by omega, k + 1, ⟨⟨?_, by omega⟩, ?_⟩, by omega, by omega⟩, fun h1 => ⟨by omega, by omega, by omega, by omega, by omega, by omega, by omega, by omega, by omega, fun h2 => ⟨fun h3 => ?_, fun h3 => ⟨by omega, k + 1, ⟨⟨?_, by omega⟩, ?_⟩, by omega, by omega⟩⟩, fun h2 => ⟨fun h3 => ⟨by omega, k + 1, ⟨⟨?_, by omega⟩, ?_⟩, by omega, by omega⟩, fun h3 => ⟨by omega, k + 1, ⟨⟨?_, by omega⟩, ?_⟩, by omega, by omega⟩⟩⟩⟩
    · rw [hstep2, aliveStep, if_neg (by omega), hen, hgood]; rfl
    · rw [hstep2, aliveStep, if_neg (by omega)]
    · rw [h2] at h3; exact absurd h3 (by decide)
    · rw [hstep2, aliveStep, if_pos (by omega), if_pos h2, hen, hgood]; rfl
    · rw [hstep2, aliveStep, if_pos (by omega), if_pos h2]
    · rw [hstep2, aliveStep, if_pos (by omega), if_neg h2, if_pos h3, hen, hgood]; rfl
    · rw [hstep2, aliveStep, if_pos (by omega), if_neg h2, if_pos h3]
    · rw [hstep2, aliveStep, if_pos (by omega), if_neg h2, if_neg h3, hen, hgood]; rfl
    · rw [hstep2, aliveStep, if_pos (by omega), if_neg h2, if_neg h3]
  · refine ⟨fun h => ?_, fun h1 h2 h3 => ?_⟩
    · have hno : tO = false := by
        rw [hok]
        rcases h with h | h
        · simp [h]
        · rw [Bool.and_eq_false_iff] at h
          rcases h with h | h
          · simp [h]
          · have := aliveF_take_bad h
            simp [this]
      rw [hT, hM, hno]; exact ⟨rfl, rfl⟩
    · rw [h2, h3] at hend
      have hkl : k = w.length := by
        simp only [Bool.and_true, decide_eq_false_iff_not] at hend; omega
      subst hkl
      rw [List.take_length] at h3 ⊢
      have hyes : tO = true := by rw [hok, h2, h3]; simpa using h1
      rw [hT, hM, hyes]; exact ⟨rfl, rfl⟩
def tb_specAliveR : List Blk → List AV → Option (List Blk × AV × Prop)
  | [], [a0] => some ([], .tuple [.agg [.int .i64 (aliveT (dec_flds a0)), .int .i64 (aliveM (dec_flds a0))], .bool (aliveOk (dec_flds a0))], ((dec_flds a0).length ≤ 1000) ∧ (∀ f ∈ (dec_flds a0), f.1.length ≤ 1000000) ∧ (∀ f ∈ (dec_flds a0), f.2.length ≤ 900) ∧ argOK a0 (enc_flds (dec_flds a0)))
  | _, _ => none
theorem tb_specAliveR_ok : ∀ E args E' res p, tb_specAliveR E args = some (E', res, p) → p → SpecE Try.prog 134 E args E' res := by
  intro E args E' res p h hp
  unfold tb_specAliveR at h
  split at h
  · simp only [Option.some.injEq, Prod.mk.injEq] at h
    obtain ⟨rfl, rfl, rfl⟩ := h
    exact SpecE.args (specAliveR _ hp.1 hp.2.1 hp.2.2.1) (.cons hp.2.2.2 .nil)
  · cases h

def T_specLives : Tbl := fun g E args => (addT (addT (addT nilT 133 Go.Proofs.Try.Con.tb_specAlive) 131 Go.Proofs.Try.Con.tb_specPersists) 86 Go.Proofs.Try.Con.tb_specHas) g E args
theorem T_specLives_ok : TblOK Try.prog T_specLives := (addT_ok (addT_ok (addT_ok nilT_ok (by decide +kernel) Go.Proofs.Try.Con.tb_specAlive_ok) (by decide +kernel) Go.Proofs.Try.Con.tb_specPersists_ok) (by decide +kernel) Go.Proofs.Try.Con.tb_specHas_ok)
set_option maxRecDepth 100000 in
set_option maxHeartbeats 4000000 in
theorem specLives : SpecE Try.prog 127 [] [] [] (.bool true) := by
  refine specF0 (C := T_specLives) (wr := false) (D := fun _ => []) (U := fun _ => none) (res := [.bool true]) Try.Ty.mixed T_specLives_ok Try.func127 (nA := 0) (by decide +kernel) rfl (fun _ => rfl) ?_
  simp only [Try.f127, bodyOf, rlOf]
  rw [W_V]
  simp (config := {maxSteps := 2000000}) only [T_specLives, Go.Proofs.Try.Con.tb_specAlive, Go.Proofs.Try.Con.tb_specPersists, Go.Proofs.Try.Con.tb_specHas, go_sem, reduceIte, Nat.reduceEqDiff, Nat.reduceAdd, Nat.reduceMul, Nat.reduceSub, Nat.reduceBEq, Nat.reduceLT, Nat.reduceLeDiff, reduceCtorEq, Int.reduceNeg, Int.reduceEq, String.reduceEq, Int.reduceLT, Int.reduceLE, Int.reduceToNat, Int.reduceAdd, Int.reduceMul, Int.reduceSub, dec_fld_mk]
  (try simp (config := {maxSteps := 2000000}) only [gimp, impB, isT, go_sem, reduceIte, Nat.reduceEqDiff, Nat.reduceAdd, Nat.reduceMul, Nat.reduceSub, Nat.reduceBEq, Nat.reduceLT, Nat.reduceLeDiff, reduceCtorEq, Int.reduceNeg, Int.reduceEq, String.reduceEq, Int.reduceLT, Int.reduceLE, Int.reduceToNat, Int.reduceAdd, Int.reduceMul, Int.reduceSub])
  decide +kernel
def tb_specLives : List Blk → List AV → Option (List Blk × AV × Prop)
  | [], [] => some ([], .bool true, True)
  | _, _ => none
theorem tb_specLives_ok : ∀ E args E' res p, tb_specLives E args = some (E', res, p) → p → SpecE Try.prog 127 E args E' res := by
  intro E args E' res p h hp
  unfold tb_specLives at h
  split at h
  · simp only [Option.some.injEq, Prod.mk.injEq] at h
    obtain ⟨rfl, rfl, rfl⟩ := h
    exact specLives
  · cases h

def T_specLawWords : Tbl := fun g E args => (addT (addT (addT (addT (addT (addT (addT (addT (addT nilT 70 Go.Proofs.Try.HdrR.tb_specFew) 128 Go.Proofs.Try.Con.tb_specWords) 129 Go.Proofs.Try.ConR.tb_specWordsR) 37 Go.Proofs.Try.Oct.tb_specSame) 86 Go.Proofs.Try.Con.tb_specHas) 130 Go.Proofs.Try.ConR.tb_specHasR) 131 Go.Proofs.Try.Con.tb_specPersists) 132 Go.Proofs.Try.ConR.tb_specPersistsR) 127 Go.Proofs.Try.ConR.tb_specLives) g E args
theorem T_specLawWords_ok : TblOK Try.prog T_specLawWords := (addT_ok (addT_ok (addT_ok (addT_ok (addT_ok (addT_ok (addT_ok (addT_ok (addT_ok nilT_ok (by decide +kernel) Go.Proofs.Try.HdrR.tb_specFew_ok) (by decide +kernel) Go.Proofs.Try.Con.tb_specWords_ok) (by decide +kernel) Go.Proofs.Try.ConR.tb_specWordsR_ok) (by decide +kernel) Go.Proofs.Try.Oct.tb_specSame_ok) (by decide +kernel) Go.Proofs.Try.Con.tb_specHas_ok) (by decide +kernel) Go.Proofs.Try.ConR.tb_specHasR_ok) (by decide +kernel) Go.Proofs.Try.Con.tb_specPersists_ok) (by decide +kernel) Go.Proofs.Try.ConR.tb_specPersistsR_ok) (by decide +kernel) Go.Proofs.Try.ConR.tb_specLives_ok)
set_option maxRecDepth 100000 in
set_option maxHeartbeats 4000000 in
theorem specLawWords (l : List Fld) (w : List UInt8) (m : Int) (hl : l.length ≤ maxLen) (hw : w.length ≤ maxLen) : SpecE Try.prog 30 [] [enc_flds l, .str w, .int .i64 m] [] (.bool true) := by
  refine specF0 (C := T_specLawWords) (wr := false) (D := fun _ => []) (U := fun _ => none) (res := [.bool true]) Try.Ty.mixed T_specLawWords_ok Try.func30 (nA := 3) (by decide +kernel) rfl (fun _ => rfl) ?_
  simp only [Try.f30, bodyOf, rlOf]
  rw [W_V]
  simp (config := {maxSteps := 2000000}) only [T_specLawWords, Go.Proofs.Try.HdrR.tb_specFew, Go.Proofs.Try.Con.tb_specWords, Go.Proofs.Try.ConR.tb_specWordsR, Go.Proofs.Try.Oct.tb_specSame, Go.Proofs.Try.Con.tb_specHas, Go.Proofs.Try.ConR.tb_specHasR, Go.Proofs.Try.Con.tb_specPersists, Go.Proofs.Try.ConR.tb_specPersistsR, Go.Proofs.Try.ConR.tb_specLives, go_sem, reduceIte, Nat.reduceEqDiff, Nat.reduceAdd, Nat.reduceMul, Nat.reduceSub, Nat.reduceBEq, Nat.reduceLT, Nat.reduceLeDiff, reduceCtorEq, Int.reduceNeg, Int.reduceEq, String.reduceEq, Int.reduceLT, Int.reduceLE, Int.reduceToNat, Int.reduceAdd, Int.reduceMul, Int.reduceSub]
  (try simp (config := {maxSteps := 2000000}) only [gimp, impB, isT, go_sem, reduceIte, Nat.reduceEqDiff, Nat.reduceAdd, Nat.reduceMul, Nat.reduceSub, Nat.reduceBEq, Nat.reduceLT, Nat.reduceLeDiff, reduceCtorEq, Int.reduceNeg, Int.reduceEq, String.reduceEq, Int.reduceLT, Int.reduceLE, Int.reduceToNat, Int.reduceAdd, Int.reduceMul, Int.reduceSub])
  refine ⟨hl, fun hfew hw2 => ?_⟩
  obtain ⟨f1, f2⟩ := fewF_len hfew
  have c1 : l.length ≤ 1000 := by omega
  have c2 : ∀ f ∈ l, f.2.length ≤ 50000 := fun f h => by have := (f2 f h).2; omega
  have c3 : ∀ f ∈ l, f.1.length ≤ 1000000 := fun f h => by have := (f2 f h).1; omega
  have c4 : ∀ f ∈ l, f.2.length ≤ 900 := fun f h => by have := (f2 f h).2; omega
  have c5 : (conW l).length ≤ 2147483647 := by
    have h1 := wordsS_count (combS l nmConnection)
    have h2 := comb_len3 nmConnection c1 c4
    unfold conW; omega
  exact ⟨⟨c1, c2⟩, ⟨c1, c3, c4⟩, c5, ⟨c1, c2, hw⟩, ⟨c1, c3, c4, by omega⟩, ⟨c1, c2⟩, c1, c3, c4⟩
def tb_specLawWords : List Blk → List AV → Option (List Blk × AV × Prop)
  | [], [a0, .str w, .int .i64 m] => some ([], .bool true, ((dec_flds a0).length ≤ maxLen) ∧ (w.length ≤ maxLen) ∧ argOK a0 (enc_flds (dec_flds a0)))
  | _, _ => none
theorem tb_specLawWords_ok : ∀ E args E' res p, tb_specLawWords E args = some (E', res, p) → p → SpecE Try.prog 30 E args E' res := by
  intro E args E' res p h hp
  unfold tb_specLawWords at h
  split at h
  · simp only [Option.some.injEq, Prod.mk.injEq] at h
    obtain ⟨rfl, rfl, rfl⟩ := h
    exact SpecE.args (specLawWords _ _ _ hp.1 hp.2.1) (.cons hp.2.2 (.cons (argOK.refl _) (.cons (argOK.refl _) .nil)))
  · cases h

def T_specLawAlive : Tbl := fun g E args => (addT (addT (addT (addT nilT 70 Go.Proofs.Try.HdrR.tb_specFew) 133 Go.Proofs.Try.Con.tb_specAlive) 134 Go.Proofs.Try.ConR.tb_specAliveR) 127 Go.Proofs.Try.ConR.tb_specLives) g E args
theorem T_specLawAlive_ok : TblOK Try.prog T_specLawAlive := (addT_ok (addT_ok (addT_ok (addT_ok nilT_ok (by decide +kernel) Go.Proofs.Try.HdrR.tb_specFew_ok) (by decide +kernel) Go.Proofs.Try.Con.tb_specAlive_ok) (by decide +kernel) Go.Proofs.Try.ConR.tb_specAliveR_ok) (by decide +kernel) Go.Proofs.Try.ConR.tb_specLives_ok)
set_option maxRecDepth 100000 in
set_option maxHeartbeats 4000000 in
theorem specLawAlive (l : List Fld) (hl : l.length ≤ maxLen) : SpecE Try.prog 31 [] [enc_flds l] [] (.bool true) := by
  refine specF0 (C := T_specLawAlive) (wr := false) (D := fun _ => []) (U := fun _ => none) (res := [.bool true]) Try.Ty.mixed T_specLawAlive_ok Try.func31 (nA := 1) (by decide +kernel) rfl (fun _ => rfl) ?_
  simp only [Try.f31, bodyOf, rlOf]
  rw [W_V]
  simp (config := {maxSteps := 2000000}) only [T_specLawAlive, Go.Proofs.Try.HdrR.tb_specFew, Go.Proofs.Try.Con.tb_specAlive, Go.Proofs.Try.ConR.tb_specAliveR, Go.Proofs.Try.ConR.tb_specLives, go_sem, reduceIte, Nat.reduceEqDiff, Nat.reduceAdd, Nat.reduceMul, Nat.reduceSub, Nat.reduceBEq, Nat.reduceLT, Nat.reduceLeDiff, reduceCtorEq, Int.reduceNeg, Int.reduceEq, String.reduceEq, Int.reduceLT, Int.reduceLE, Int.reduceToNat, Int.reduceAdd, Int.reduceMul, Int.reduceSub]
  (try simp (config := {maxSteps := 2000000}) only [gimp, impB, isT, go_sem, reduceIte, Nat.reduceEqDiff, Nat.reduceAdd, Nat.reduceMul, Nat.reduceSub, Nat.reduceBEq, Nat.reduceLT, Nat.reduceLeDiff, reduceCtorEq, Int.reduceNeg, Int.reduceEq, String.reduceEq, Int.reduceLT, Int.reduceLE, Int.reduceToNat, Int.reduceAdd, Int.reduceMul, Int.reduceSub])
  refine ⟨hl, fun hfew => ?_⟩
  obtain ⟨f1, f2⟩ := fewF_len hfew
  exact ⟨⟨by omega, fun f h => by have := (f2 f h).2; omega⟩, by omega, fun f h => by have := (f2 f h).1; omega, fun f h => by have := (f2 f h).2; omega⟩
def tb_specLawAlive : List Blk → List AV → Option (List Blk × AV × Prop)
  | [], [a0] => some ([], .bool true, ((dec_flds a0).length ≤ maxLen) ∧ argOK a0 (enc_flds (dec_flds a0)))
  | _, _ => none
theorem tb_specLawAlive_ok : ∀ E args E' res p, tb_specLawAlive E args = some (E', res, p) → p → SpecE Try.prog 31 E args E' res := by
  intro E args E' res p h hp
  unfold tb_specLawAlive at h
  split at h
  · simp only [Option.some.injEq, Prod.mk.injEq] at h
    obtain ⟨rfl, rfl, rfl⟩ := h
    exact SpecE.args (specLawAlive _ hp.1) (.cons hp.2 .nil)
  · cases h

def T_specLawClose : Tbl := fun g E args => (addT (addT (addT (addT (addT (addT nilT 70 Go.Proofs.Try.HdrR.tb_specFew) 109 Go.Proofs.Try.Hdr.tb_specWith) 128 Go.Proofs.Try.Con.tb_specWords) 86 Go.Proofs.Try.Con.tb_specHas) 131 Go.Proofs.Try.Con.tb_specPersists) 127 Go.Proofs.Try.ConR.tb_specLives) g E args
theorem T_specLawClose_ok : TblOK Try.prog T_specLawClose := (addT_ok (addT_ok (addT_ok (addT_ok (addT_ok (addT_ok nilT_ok (by decide +kernel) Go.Proofs.Try.HdrR.tb_specFew_ok) (by decide +kernel) Go.Proofs.Try.Hdr.tb_specWith_ok) (by decide +kernel) Go.Proofs.Try.Con.tb_specWords_ok) (by decide +kernel) Go.Proofs.Try.Con.tb_specHas_ok) (by decide +kernel) Go.Proofs.Try.Con.tb_specPersists_ok) (by decide +kernel) Go.Proofs.Try.ConR.tb_specLives_ok)
set_option maxRecDepth 100000 in
set_option maxHeartbeats 4000000 in
theorem specLawClose (l : List Fld) (m : Int) (hl : l.length ≤ maxLen) : SpecE Try.prog 32 [] [enc_flds l, .int .i64 m] [] (.bool true) := by
  refine specF0 (C := T_specLawClose) (wr := false) (D := fun _ => []) (U := fun _ => none) (res := [.bool true]) Try.Ty.mixed T_specLawClose_ok Try.func32 (nA := 2) (by decide +kernel) rfl (fun _ => rfl) ?_
  simp only [Try.f32, bodyOf, rlOf]
  rw [W_V]
  simp (config := {maxSteps := 2000000}) only [T_specLawClose, Go.Proofs.Try.HdrR.tb_specFew, Go.Proofs.Try.Hdr.tb_specWith, Go.Proofs.Try.Con.tb_specWords, Go.Proofs.Try.Con.tb_specHas, Go.Proofs.Try.Con.tb_specPersists, Go.Proofs.Try.ConR.tb_specLives, go_sem, reduceIte, Nat.reduceEqDiff, Nat.reduceAdd, Nat.reduceMul, Nat.reduceSub, Nat.reduceBEq, Nat.reduceLT, Nat.reduceLeDiff, reduceCtorEq, Int.reduceNeg, Int.reduceEq, String.reduceEq, Int.reduceLT, Int.reduceLE, Int.reduceToNat, Int.reduceAdd, Int.reduceMul, Int.reduceSub]
  (try simp (config := {maxSteps := 2000000}) only [gimp, impB, isT, go_sem, reduceIte, Nat.reduceEqDiff, Nat.reduceAdd, Nat.reduceMul, Nat.reduceSub, Nat.reduceBEq, Nat.reduceLT, Nat.reduceLeDiff, reduceCtorEq, Int.reduceNeg, Int.reduceEq, String.reduceEq, Int.reduceLT, Int.reduceLE, Int.reduceToNat, Int.reduceAdd, Int.reduceMul, Int.reduceSub])
  refine ⟨hl, fun hfew => ?_⟩
  obtain ⟨f1, f2⟩ := fewF_len hfew
  have c1 : l.length ≤ 1000 := by omega
  have c2 : ∀ f ∈ l, f.2.length ≤ 50000 := fun f h => by have := (f2 f h).2; omega
  rw [List.take_length, close_more]
  have e0 : conE l = 0 ↔ conOk l = true := by unfold conE; cases conOk l <;> simp
  refine ⟨by omega, ⟨by simp [withS]; omega, fun f h => ?_⟩, fun h => (by cases h), fun _ => ⟨⟨c1, c2⟩, fun h => ?_, fun h => ⟨⟨c1, c2⟩, ⟨c1, c2, by decide⟩, ?_⟩⟩⟩
  · simp only [withS, List.mem_append, List.mem_singleton] at h
    rcases h with h | rfl
    · exact c2 f h
    · decide
  · have hno : conOk l = false := Bool.eq_false_iff.2 (fun h2 => h (e0.2 h2))
    have hW : conW l = [] := by
      have : wordsOk (combS l nmConnection) = false := hno
      simp [conW, wordsS, this]
    refine ⟨⟨c1, c2⟩, ⟨fun _ => c1, fun _ => c2, fun _ => by decide⟩, by simp [conPer, hno], by simp [conHas, hW, inL]⟩
  · have hy := e0.1 h
    have hlow : lowerS [67, 76, 79, 83, 69] = wdClose := by decide +kernel
    rw [conPer, conHas, hy, hlow]
    simp
def tb_specLawClose : List Blk → List AV → Option (List Blk × AV × Prop)
  | [], [a0, .int .i64 m] => some ([], .bool true, ((dec_flds a0).length ≤ maxLen) ∧ argOK a0 (enc_flds (dec_flds a0)))
  | _, _ => none
theorem tb_specLawClose_ok : ∀ E args E' res p, tb_specLawClose E args = some (E', res, p) → p → SpecE Try.prog 32 E args E' res := by
  intro E args E' res p h hp
  unfold tb_specLawClose at h
  split at h
  · simp only [Option.some.injEq, Prod.mk.injEq] at h
    obtain ⟨rfl, rfl, rfl⟩ := h
    exact SpecE.args (specLawClose _ _ hp.1) (.cons hp.2 (.cons (argOK.refl _) .nil))
  · cases h
end Go.Proofs.Try.ConR
