/- datefix: the walks of the document's answer and of the statements' code. No condition beyond those that a machine's numbers bring. -/
import Derived.Test.YtnfidlgiaaeleaaDfx
set_option linter.unusedVariables false
set_option linter.unusedSimpArgs false
namespace Go.Proofs.Try.Dfx
open Go Go.Abs Go.Proofs Go.Mdl Go.Proofs.Try.Hdt Go.Proofs.Try.Civil

theorem dated_low (w : List UInt8) : datedB w = (decide (lowerS w = [100, 97, 116, 101]) || decide (lowerS w = [101, 120, 112, 105, 114, 101, 115]) || decide (lowerS w = [108, 97, 115, 116, 45, 109, 111, 100, 105, 102, 105, 101, 100]) || decide (lowerS w = [105, 102, 45, 109, 111, 100, 105, 102, 105, 101, 100, 45, 115, 105, 110, 99, 101]) || decide (lowerS w = [105, 102, 45, 117, 110, 109, 111, 100, 105, 102, 105, 101, 100, 45, 115, 105, 110, 99, 101])) := by
  have e1 : lowerS [68, 97, 116, 101] = [100, 97, 116, 101] := by decide +kernel
  have e2 : lowerS [69, 120, 112, 105, 114, 101, 115] = [101, 120, 112, 105, 114, 101, 115] := by decide +kernel
  have e3 : lowerS [76, 97, 115, 116, 45, 77, 111, 100, 105, 102, 105, 101, 100] = [108, 97, 115, 116, 45, 109, 111, 100, 105, 102, 105, 101, 100] := by decide +kernel
  have e4 : lowerS [73, 102, 45, 77, 111, 100, 105, 102, 105, 101, 100, 45, 83, 105, 110, 99, 101] = [105, 102, 45, 109, 111, 100, 105, 102, 105, 101, 100, 45, 115, 105, 110, 99, 101] := by decide +kernel
  have e5 : lowerS [73, 102, 45, 85, 110, 109, 111, 100, 105, 102, 105, 101, 100, 45, 83, 105, 110, 99, 101] = [105, 102, 45, 117, 110, 109, 111, 100, 105, 102, 105, 101, 100, 45, 115, 105, 110, 99, 101] := by decide +kernel
  simp only [datedB, dfNames, List.any_cons, List.any_nil, Bool.or_false, foldS, e1, e2, e3, e4, e5, eq_comm, Bool.or_assoc]
theorem refGo_nil (ty : Int) : refGo [] ty = (0, 0, 3) := by
  have h1 : (form1 []).ok = false := by decide +kernel
  have h2 : (form2 ty []).ok = false := by
    have : f2Ok (([] : List UInt8).take (cmI [])) (([] : List UInt8).drop (cmI [])) = false := by decide +kernel
    rw [form2]; simp only [this]; rfl
  have h3 : (form3 []).ok = false := by decide +kernel
  rw [refGo, h1, h2, h3]; rfl
theorem fix_print (n later : Int) : fixH (printH n) later = printH n := by
  by_cases h : inDays (dQ n) = true
  · by_cases hl : inDays (dQ later) = true
    · exact (fix_back (s := printH n) h hl (by rw [printH, if_pos h]; exact parse_back1 h hl)).1
    · rw [fixH, if_neg]
      rw [parse_ref, if_neg hl]; simp
  · have : printH n = [] := by rw [printH, if_neg h]
    rw [this, fixH, if_neg]
    rw [parse_ref, refGo_nil]
    split <;> simp
theorem fix_kept {v : List UInt8} {now : Int} (h : fixH v now ≠ v) (later : Int) : fixH (fixH v now) later = fixH v now := by
  unfold fixH at h
  split at h
  · rename_i h0
    have : fixH v now = printH (hdParse v now).1 := by rw [fixH, if_pos h0]
    rw [this]; exact fix_print _ _
  · exact absurd rfl h
theorem fix_idem (v : List UInt8) (now : Int) : fixH (fixH v now) now = fixH v now := by
  by_cases h : fixH v now = v
  · rw [h, h]
  · exact fix_kept h now
theorem fixH_le (v : List UInt8) (now : Int) : (fixH v now).length ≤ v.length + 1000 := by
  unfold fixH
  split
  · have := HdtR.printH_le (hdParse v now).1; omega
  · omega
theorem dfixF_name (now : Int) (f : Fld) : (dfixF now f).1 = f.1 := by unfold dfixF; split <;> rfl
theorem dfixF_idem (now : Int) (f : Fld) : dfixF now (dfixF now f) = dfixF now f := by
  unfold dfixF
  by_cases h : datedB f.1 = true
  · rw [if_pos h]; simp only [h, if_true, fix_idem]
  · rw [if_neg h, if_neg h]
theorem dfixS_idem (now : Int) (l : List Fld) : dfixS now (dfixS now l) = dfixS now l := by
  simp only [dfixS, List.map_map]
  apply List.map_congr_left
  intro f _
  exact dfixF_idem now f
theorem dfixS_len (now : Int) (l : List Fld) : (dfixS now l).length = l.length := by simp [dfixS]
theorem dfixS_at (now : Int) {l : List Fld} {k : Nat} (h : k < l.length) : (dfixS now l).getD k ([], []) = dfixF now (l.getD k ([], [])) := by
  simp only [dfixS, List.getD_eq_getElem?_getD, List.getElem?_map, List.getElem?_eq_getElem h]; rfl
theorem dfixF_le (now : Int) (f : Fld) : (dfixF now f).2.length ≤ f.2.length + 1000 := by
  unfold dfixF
  split
  · exact fixH_le _ _
  · omega
theorem dfixS_le {now : Int} {l : List Fld} {n : Nat} (h : ∀ f ∈ l, f.2.length ≤ n) : ∀ f ∈ dfixS now l, f.2.length ≤ n + 1000 := by
  intro f hf
  obtain ⟨g, hg, rfl⟩ := List.mem_map.1 hf
  have := dfixF_le now g
  have := h g hg
  omega
theorem dfixS_take (now : Int) {l : List Fld} {k : Nat} (h : k < l.length) : dfixS now (l.take (k + 1)) = dfixS now (l.take k) ++ [dfixF now (l.getD k ([], []))] := by
  rw [take_succ_getD ([], []) h]; simp [dfixS]

def T_specDatedR : Tbl := fun g E args => (addT nilT 65 Go.Proofs.Try.Oct.tb_specLowerR) g E args
theorem T_specDatedR_ok : TblOK Try.prog T_specDatedR := (addT_ok nilT_ok (by decide +kernel) Go.Proofs.Try.Oct.tb_specLowerR_ok)
set_option maxRecDepth 100000 in
set_option maxHeartbeats 4000000 in
theorem specDatedR (w : List UInt8) (hw : w.length ≤ 1000000) : SpecE Try.prog 29 [] [.str w] [] (.bool (datedB w)) := by
  refine specF0 (C := T_specDatedR) (wr := false) (D := fun _ => []) (U := fun _ => none) (res := [.bool (datedB w)]) Try.Ty.mixed T_specDatedR_ok Try.func29 (nA := 1) (by decide +kernel) rfl (fun _ => rfl) ?_
  simp only [Try.f29, bodyOf, rlOf]
  rw [W_V]
  simp (config := {maxSteps := 2000000}) only [T_specDatedR, Go.Proofs.Try.Oct.tb_specLowerR, go_sem, reduceIte, Nat.reduceEqDiff, Nat.reduceAdd, Nat.reduceMul, Nat.reduceDiv, Nat.reduceMod, Nat.reduceSub, Nat.reduceBEq, Nat.reduceLT, Nat.reduceLeDiff, reduceCtorEq, Int.reduceNeg, Int.reduceEq, String.reduceEq, Int.reduceLT, Int.reduceLE, Int.reduceToNat, Int.reduceAdd, Int.reduceMul, Int.reduceSub]
  (try simp (config := {maxSteps := 2000000}) only [gimp, impB, isT, go_sem, reduceIte, Nat.reduceEqDiff, Nat.reduceAdd, Nat.reduceMul, Nat.reduceDiv, Nat.reduceMod, Nat.reduceSub, Nat.reduceBEq, Nat.reduceLT, Nat.reduceLeDiff, reduceCtorEq, Int.reduceNeg, Int.reduceEq, String.reduceEq, Int.reduceLT, Int.reduceLE, Int.reduceToNat, Int.reduceAdd, Int.reduceMul, Int.reduceSub])
  rw [dated_low]
  exact ⟨hw, rfl⟩
def tb_specDatedR : List Blk → List AV → Option (List Blk × AV × Prop)
  | [], [.str w] => some ([], .bool (datedB w), (w.length ≤ 1000000))
  | _, _ => none
theorem tb_specDatedR_ok : ∀ E args E' res p, tb_specDatedR E args = some (E', res, p) → p → SpecE Try.prog 29 E args E' res := by
  intro E args E' res p h hp
  unfold tb_specDatedR at h
  split at h
  · simp only [Option.some.injEq, Prod.mk.injEq] at h
    obtain ⟨rfl, rfl, rfl⟩ := h
    exact (specDatedR _ hp)
  · cases h

def T_specFixRf : Tbl := fun g E args => (addT (addT nilT 29 Go.Proofs.Try.Dfx.tb_specDatedR) 17 Go.Proofs.Try.HdtR.tb_specFixR) g E args
theorem T_specFixRf_ok : TblOK Try.prog T_specFixRf := (addT_ok (addT_ok nilT_ok (by decide +kernel) Go.Proofs.Try.Dfx.tb_specDatedR_ok) (by decide +kernel) Go.Proofs.Try.HdtR.tb_specFixR_ok)
set_option maxRecDepth 100000 in
set_option maxHeartbeats 4000000 in
theorem specFixRf (l : List Fld) (now : Int) (hl : l.length ≤ 1000000) (hf : ∀ f ∈ l, f.1.length ≤ 1000000 ∧ f.2.length ≤ 1000000) (hn : inR .i64 now) : SpecE Try.prog 27 [] [enc_flds l, .int .i64 now] [] (enc_flds (dfixS now l)) := by
  refine specF0 (C := T_specFixRf) (wr := false) (D := fun _ => []) (U := fun _ => none) (res := [enc_flds (dfixS now l)]) Try.Ty.mixed T_specFixRf_ok Try.func27 (nA := 2) (by decide +kernel) rfl (fun _ => rfl) ?_
  simp only [Try.f27, bodyOf, rlOf]
  rw [W_V]
  simp (config := {maxSteps := 2000000}) only [T_specFixRf, Go.Proofs.Try.Dfx.tb_specDatedR, Go.Proofs.Try.HdtR.tb_specFixR, go_sem, reduceIte, Nat.reduceEqDiff, Nat.reduceAdd, Nat.reduceMul, Nat.reduceDiv, Nat.reduceMod, Nat.reduceSub, Nat.reduceBEq, Nat.reduceLT, Nat.reduceLeDiff, reduceCtorEq, Int.reduceNeg, Int.reduceEq, String.reduceEq, Int.reduceLT, Int.reduceLE, Int.reduceToNat, Int.reduceAdd, Int.reduceMul, Int.reduceSub]
  (try simp (config := {maxSteps := 2000000}) only [gimp, impB, isT, go_sem, reduceIte, Nat.reduceEqDiff, Nat.reduceAdd, Nat.reduceMul, Nat.reduceDiv, Nat.reduceMod, Nat.reduceSub, Nat.reduceBEq, Nat.reduceLT, Nat.reduceLeDiff, reduceCtorEq, Int.reduceNeg, Int.reduceEq, String.reduceEq, Int.reduceLT, Int.reduceLE, Int.reduceToNat, Int.reduceAdd, Int.reduceMul, Int.reduceSub])
  refine VL_inv (X := Nat) (fun k => ⟨[(0, enc_flds l), (1, .int .i64 now), (5, .ref 144 0 (dfixS now (l.take k)).length (dfixS now (l.take k)).length), (6, .int .i64 k)], [(144, .cells 2 false (.agg [.str [], .str []]) ((dfixS now (l.take k)).map enc_fld))]⟩) (fun k => k ≤ l.length) (fun k => l.length - k) 0 ?_ ?_ ?_
  · simp only [List.take_zero, dfixS, List.map_nil, T_specFixRf, Go.Proofs.Try.Dfx.tb_specDatedR, Go.Proofs.Try.HdtR.tb_specFixR, go_sem, reduceIte, Nat.reduceEqDiff, Nat.reduceAdd, Nat.reduceMul, Nat.reduceDiv, Nat.reduceMod, Nat.reduceSub, Nat.reduceBEq, Nat.reduceLT, Nat.reduceLeDiff, reduceCtorEq, Int.reduceNeg, Int.reduceEq, String.reduceEq, Int.reduceLT, Int.reduceLE, Int.reduceToNat, Int.reduceAdd, Int.reduceMul, Int.reduceSub]
    try rfl
  · exact Nat.zero_le _
  rintro k hk
  simp (config := {maxSteps := 2000000}) only [T_specFixRf, Go.Proofs.Try.Dfx.tb_specDatedR, Go.Proofs.Try.HdtR.tb_specFixR, go_sem, reduceIte, Nat.reduceEqDiff, Nat.reduceAdd, Nat.reduceMul, Nat.reduceDiv, Nat.reduceMod, Nat.reduceSub, Nat.reduceBEq, Nat.reduceLT, Nat.reduceLeDiff, reduceCtorEq, Int.reduceNeg, Int.reduceEq, String.reduceEq, Int.reduceLT, Int.reduceLE, Int.reduceToNat, Int.reduceAdd, Int.reduceMul, Int.reduceSub]
  (try simp (config := {maxSteps := 2000000}) only [gimp, impB, isT, go_sem, reduceIte, Nat.reduceEqDiff, Nat.reduceAdd, Nat.reduceMul, Nat.reduceDiv, Nat.reduceMod, Nat.reduceSub, Nat.reduceBEq, Nat.reduceLT, Nat.reduceLeDiff, reduceCtorEq, Int.reduceNeg, Int.reduceEq, String.reduceEq, Int.reduceLT, Int.reduceLE, Int.reduceToNat, Int.reduceAdd, Int.reduceMul, Int.reduceSub])
  have hlt' : (l.take k).length ≤ 1000000 := by rw [List.length_take]; omega
  have hle := dfixS_len now (l.take k)
  have hs := fun h : k < l.length => dfixS_take now (l := l) h
  have hmem := fun h : k < l.length => hf _ (List.mem_of_getElem? (getD_of_lt (s := l) (d := ([], [])) h))
  simp only [inR] at hn
  refine ⟨fun hlt => ⟨by omega, (hmem (by omega)).1, fun hd => ⟨⟨(hmem (by omega)).2, hn⟩, by omega, by omega, k + 1, ⟨⟨?_, by omega⟩, ?_⟩, by omega, by omega⟩, fun hd => ⟨by omega, by omega, k + 1, ⟨⟨?_, by omega⟩, ?_⟩, by omega, by omega⟩⟩, fun hge => ?_⟩
  · rw [hs (by omega)]; simp
  · rw [hs (by omega), dfixF, if_pos hd]; simp [enc_fld]
  · rw [hs (by omega)]; simp
  · rw [hs (by omega), dfixF, if_neg (by rw [hd]; simp)]; simp [enc_fld]
  · rw [List.take_length, List.take_of_length_le (by omega)]
def tb_specFixRf : List Blk → List AV → Option (List Blk × AV × Prop)
  | [], [a0, .int .i64 now] => some ([], enc_flds (dfixS now (dec_flds a0)), ((dec_flds a0).length ≤ 1000000) ∧ (∀ f ∈ (dec_flds a0), f.1.length ≤ 1000000 ∧ f.2.length ≤ 1000000) ∧ (inR .i64 now) ∧ argOK a0 (enc_flds (dec_flds a0)))
  | _, _ => none
theorem tb_specFixRf_ok : ∀ E args E' res p, tb_specFixRf E args = some (E', res, p) → p → SpecE Try.prog 27 E args E' res := by
  intro E args E' res p h hp
  unfold tb_specFixRf at h
  split at h
  · simp only [Option.some.injEq, Prod.mk.injEq] at h
    obtain ⟨rfl, rfl, rfl⟩ := h
    exact SpecE.args (specFixRf _ _ hp.1 hp.2.1 hp.2.2.1) (.cons hp.2.2.2 (.cons (argOK.refl _) .nil))
  · cases h

def T_specLives : Tbl := fun g E args => (addT nilT 26 Go.Proofs.Try.Dfx.tb_specFix) g E args
theorem T_specLives_ok : TblOK Try.prog T_specLives := (addT_ok nilT_ok (by decide +kernel) Go.Proofs.Try.Dfx.tb_specFix_ok)
set_option maxRecDepth 100000 in
set_option maxHeartbeats 4000000 in
theorem specLives : SpecE Try.prog 24 [] [] [] (.bool true) := by
  refine specF0 (C := T_specLives) (wr := false) (D := fun _ => []) (U := fun _ => none) (res := [.bool true]) Try.Ty.mixed T_specLives_ok Try.func24 (nA := 0) (by decide +kernel) rfl (fun _ => rfl) ?_
  simp only [Try.f24, bodyOf, rlOf]
  rw [W_V]
  simp (config := {maxSteps := 2000000}) only [T_specLives, Go.Proofs.Try.Dfx.tb_specFix, go_sem, reduceIte, Nat.reduceEqDiff, Nat.reduceAdd, Nat.reduceMul, Nat.reduceDiv, Nat.reduceMod, Nat.reduceSub, Nat.reduceBEq, Nat.reduceLT, Nat.reduceLeDiff, reduceCtorEq, Int.reduceNeg, Int.reduceEq, String.reduceEq, Int.reduceLT, Int.reduceLE, Int.reduceToNat, Int.reduceAdd, Int.reduceMul, Int.reduceSub, dec_fld]
  (try simp (config := {maxSteps := 2000000}) only [gimp, impB, isT, go_sem, reduceIte, Nat.reduceEqDiff, Nat.reduceAdd, Nat.reduceMul, Nat.reduceDiv, Nat.reduceMod, Nat.reduceSub, Nat.reduceBEq, Nat.reduceLT, Nat.reduceLeDiff, reduceCtorEq, Int.reduceNeg, Int.reduceEq, String.reduceEq, Int.reduceLT, Int.reduceLE, Int.reduceToNat, Int.reduceAdd, Int.reduceMul, Int.reduceSub])
  decide +kernel
def tb_specLives : List Blk → List AV → Option (List Blk × AV × Prop)
  | [], [] => some ([], .bool true, True)
  | _, _ => none
theorem tb_specLives_ok : ∀ E args E' res p, tb_specLives E args = some (E', res, p) → p → SpecE Try.prog 24 E args E' res := by
  intro E args E' res p h hp
  unfold tb_specLives at h
  split at h
  · simp only [Option.some.injEq, Prod.mk.injEq] at h
    obtain ⟨rfl, rfl, rfl⟩ := h
    exact specLives
  · cases h

def T_specLawFixes : Tbl := fun g E args => (addT (addT (addT (addT (addT (addT (addT nilT 23 Go.Proofs.Try.HdrR.tb_specFew) 26 Go.Proofs.Try.Dfx.tb_specFix) 27 Go.Proofs.Try.Dfx.tb_specFixRf) 25 Go.Proofs.Try.HdrR.tb_specSameF) 28 Go.Proofs.Try.Dfx.tb_specDated) 29 Go.Proofs.Try.Dfx.tb_specDatedR) 24 Go.Proofs.Try.Dfx.tb_specLives) g E args
theorem T_specLawFixes_ok : TblOK Try.prog T_specLawFixes := (addT_ok (addT_ok (addT_ok (addT_ok (addT_ok (addT_ok (addT_ok nilT_ok (by decide +kernel) Go.Proofs.Try.HdrR.tb_specFew_ok) (by decide +kernel) Go.Proofs.Try.Dfx.tb_specFix_ok) (by decide +kernel) Go.Proofs.Try.Dfx.tb_specFixRf_ok) (by decide +kernel) Go.Proofs.Try.HdrR.tb_specSameF_ok) (by decide +kernel) Go.Proofs.Try.Dfx.tb_specDated_ok) (by decide +kernel) Go.Proofs.Try.Dfx.tb_specDatedR_ok) (by decide +kernel) Go.Proofs.Try.Dfx.tb_specLives_ok)
set_option maxRecDepth 100000 in
set_option maxHeartbeats 4000000 in
theorem specLawFixes (l : List Fld) (now : Int) (name : List UInt8) (hl : l.length ≤ maxLen) (hn : inR .i64 now) (hm : name.length ≤ maxLen) : SpecE Try.prog 7 [] [enc_flds l, .int .i64 now, .str name] [] (.bool true) := by
  refine specF0 (C := T_specLawFixes) (wr := false) (D := fun _ => []) (U := fun _ => none) (res := [.bool true]) Try.Ty.mixed T_specLawFixes_ok Try.func7 (nA := 3) (by decide +kernel) rfl (fun _ => rfl) ?_
  simp only [Try.f7, bodyOf, rlOf]
  rw [W_V]
  simp (config := {maxSteps := 2000000}) only [T_specLawFixes, Go.Proofs.Try.HdrR.tb_specFew, Go.Proofs.Try.Dfx.tb_specFix, Go.Proofs.Try.Dfx.tb_specFixRf, Go.Proofs.Try.HdrR.tb_specSameF, Go.Proofs.Try.Dfx.tb_specDated, Go.Proofs.Try.Dfx.tb_specDatedR, Go.Proofs.Try.Dfx.tb_specLives, go_sem, reduceIte, Nat.reduceEqDiff, Nat.reduceAdd, Nat.reduceMul, Nat.reduceDiv, Nat.reduceMod, Nat.reduceSub, Nat.reduceBEq, Nat.reduceLT, Nat.reduceLeDiff, reduceCtorEq, Int.reduceNeg, Int.reduceEq, String.reduceEq, Int.reduceLT, Int.reduceLE, Int.reduceToNat, Int.reduceAdd, Int.reduceMul, Int.reduceSub]
  (try simp (config := {maxSteps := 2000000}) only [gimp, impB, isT, go_sem, reduceIte, Nat.reduceEqDiff, Nat.reduceAdd, Nat.reduceMul, Nat.reduceDiv, Nat.reduceMod, Nat.reduceSub, Nat.reduceBEq, Nat.reduceLT, Nat.reduceLeDiff, reduceCtorEq, Int.reduceNeg, Int.reduceEq, String.reduceEq, Int.reduceLT, Int.reduceLE, Int.reduceToNat, Int.reduceAdd, Int.reduceMul, Int.reduceSub])
  refine ⟨hl, fun hfew hnm => ?_⟩
  obtain ⟨f1, f2⟩ := fewF_len hfew
  have hln := dfixS_len now l
  simp only [inR] at hn
  rw [List.take_length]
  exact ⟨⟨by omega, fun f h => by have := (f2 f h).2; omega, hn⟩, ⟨by omega, fun f h => by have := f2 f h; omega, hn⟩, by omega, fun _ => by omega, rfl⟩
def tb_specLawFixes : List Blk → List AV → Option (List Blk × AV × Prop)
  | [], [a0, .int .i64 now, .str name] => some ([], .bool true, ((dec_flds a0).length ≤ maxLen) ∧ (inR .i64 now) ∧ (name.length ≤ maxLen) ∧ argOK a0 (enc_flds (dec_flds a0)))
  | _, _ => none
theorem tb_specLawFixes_ok : ∀ E args E' res p, tb_specLawFixes E args = some (E', res, p) → p → SpecE Try.prog 7 E args E' res := by
  intro E args E' res p h hp
  unfold tb_specLawFixes at h
  split at h
  · simp only [Option.some.injEq, Prod.mk.injEq] at h
    obtain ⟨rfl, rfl, rfl⟩ := h
    exact SpecE.args (specLawFixes _ _ _ hp.1 hp.2.1 hp.2.2.1) (.cons hp.2.2.2 (.cons (argOK.refl _) (.cons (argOK.refl _) .nil)))
  · cases h

def T_specLawStays : Tbl := fun g E args => (addT (addT (addT (addT (addT (addT nilT 23 Go.Proofs.Try.HdrR.tb_specFew) 26 Go.Proofs.Try.Dfx.tb_specFix) 25 Go.Proofs.Try.HdrR.tb_specSameF) 28 Go.Proofs.Try.Dfx.tb_specDated) 16 Go.Proofs.Try.Hdt.tb_specFixH) 24 Go.Proofs.Try.Dfx.tb_specLives) g E args
theorem T_specLawStays_ok : TblOK Try.prog T_specLawStays := (addT_ok (addT_ok (addT_ok (addT_ok (addT_ok (addT_ok nilT_ok (by decide +kernel) Go.Proofs.Try.HdrR.tb_specFew_ok) (by decide +kernel) Go.Proofs.Try.Dfx.tb_specFix_ok) (by decide +kernel) Go.Proofs.Try.HdrR.tb_specSameF_ok) (by decide +kernel) Go.Proofs.Try.Dfx.tb_specDated_ok) (by decide +kernel) Go.Proofs.Try.Hdt.tb_specFixH_ok) (by decide +kernel) Go.Proofs.Try.Dfx.tb_specLives_ok)
set_option maxRecDepth 100000 in
set_option maxHeartbeats 4000000 in
theorem specLawStays (l : List Fld) (now later : Int) (hl : l.length ≤ maxLen) (hn : inR .i64 now) (hm : inR .i64 later) : SpecE Try.prog 8 [] [enc_flds l, .int .i64 now, .int .i64 later] [] (.bool true) := by
  refine specF0 (C := T_specLawStays) (wr := false) (D := fun _ => []) (U := fun _ => none) (res := [.bool true]) Try.Ty.mixed T_specLawStays_ok Try.func8 (nA := 3) (by decide +kernel) rfl (fun _ => rfl) ?_
  simp only [Try.f8, bodyOf, rlOf]
  rw [W_V]
  simp (config := {maxSteps := 2000000}) only [T_specLawStays, Go.Proofs.Try.HdrR.tb_specFew, Go.Proofs.Try.Dfx.tb_specFix, Go.Proofs.Try.HdrR.tb_specSameF, Go.Proofs.Try.Dfx.tb_specDated, Go.Proofs.Try.Hdt.tb_specFixH, Go.Proofs.Try.Dfx.tb_specLives, go_sem, reduceIte, Nat.reduceEqDiff, Nat.reduceAdd, Nat.reduceMul, Nat.reduceDiv, Nat.reduceMod, Nat.reduceSub, Nat.reduceBEq, Nat.reduceLT, Nat.reduceLeDiff, reduceCtorEq, Int.reduceNeg, Int.reduceEq, String.reduceEq, Int.reduceLT, Int.reduceLE, Int.reduceToNat, Int.reduceAdd, Int.reduceMul, Int.reduceSub, roB]
  (try simp (config := {maxSteps := 2000000}) only [gimp, impB, isT, go_sem, reduceIte, Nat.reduceEqDiff, Nat.reduceAdd, Nat.reduceMul, Nat.reduceDiv, Nat.reduceMod, Nat.reduceSub, Nat.reduceBEq, Nat.reduceLT, Nat.reduceLeDiff, reduceCtorEq, Int.reduceNeg, Int.reduceEq, String.reduceEq, Int.reduceLT, Int.reduceLE, Int.reduceToNat, Int.reduceAdd, Int.reduceMul, Int.reduceSub])
  refine ⟨hl, fun hfew => ?_⟩
  obtain ⟨f1, f2⟩ := fewF_len hfew
  have hln := dfixS_len now l
  simp only [inR] at hn hm
  rw [List.take_length, dfixS_idem, List.take_length]
  have hle : ∀ f ∈ dfixS now l, f.2.length ≤ 1300 := by
    intro f hf
    have := dfixS_le (now := now) (l := l) (n := 300) (fun f h => (f2 f h).2) f hf
    omega
  refine ⟨⟨by omega, fun f h => by have := (f2 f h).2; omega, hn⟩, fun _ => ⟨by omega, ⟨by omega, fun f h => by have := hle f h; omega, hn⟩, fun _ => by omega, fun h => by rcases h with h | h <;> exact h (by first | rfl | omega), fun _ _ => ?_⟩, fun h => absurd (by omega) h⟩
  refine VL_inv (X := Nat) (fun k => ⟨[(0, enc_flds l), (2, .int .i64 later), (7, .ref 256 0 (dfixS now l).length (dfixS now l).length), (30, .int .i64 (dfixS now l).length), (31, .int .i64 k)], [(256, .cells 2 true (.agg [.str [], .str []]) ((dfixS now l).map enc_fld))]⟩) (fun k => k ≤ l.length) (fun k => l.length - k) 0 ?_ ?_ ?_
  · simp only [T_specLawStays, Go.Proofs.Try.HdrR.tb_specFew, Go.Proofs.Try.Dfx.tb_specFix, Go.Proofs.Try.HdrR.tb_specSameF, Go.Proofs.Try.Dfx.tb_specDated, Go.Proofs.Try.Hdt.tb_specFixH, Go.Proofs.Try.Dfx.tb_specLives, go_sem, reduceIte, Nat.reduceEqDiff, Nat.reduceAdd, Nat.reduceMul, Nat.reduceDiv, Nat.reduceMod, Nat.reduceSub, Nat.reduceBEq, Nat.reduceLT, Nat.reduceLeDiff, reduceCtorEq, Int.reduceNeg, Int.reduceEq, String.reduceEq, Int.reduceLT, Int.reduceLE, Int.reduceToNat, Int.reduceAdd, Int.reduceMul, Int.reduceSub, roB]
    try rfl
  · exact Nat.zero_le _
  rintro k hk
  simp (config := {maxSteps := 2000000}) only [T_specLawStays, Go.Proofs.Try.HdrR.tb_specFew, Go.Proofs.Try.Dfx.tb_specFix, Go.Proofs.Try.HdrR.tb_specSameF, Go.Proofs.Try.Dfx.tb_specDated, Go.Proofs.Try.Hdt.tb_specFixH, Go.Proofs.Try.Dfx.tb_specLives, go_sem, reduceIte, Nat.reduceEqDiff, Nat.reduceAdd, Nat.reduceMul, Nat.reduceDiv, Nat.reduceMod, Nat.reduceSub, Nat.reduceBEq, Nat.reduceLT, Nat.reduceLeDiff, reduceCtorEq, Int.reduceNeg, Int.reduceEq, String.reduceEq, Int.reduceLT, Int.reduceLE, Int.reduceToNat, Int.reduceAdd, Int.reduceMul, Int.reduceSub, roB]
  (try simp (config := {maxSteps := 2000000}) only [gimp, impB, isT, go_sem, reduceIte, Nat.reduceEqDiff, Nat.reduceAdd, Nat.reduceMul, Nat.reduceDiv, Nat.reduceMod, Nat.reduceSub, Nat.reduceBEq, Nat.reduceLT, Nat.reduceLeDiff, reduceCtorEq, Int.reduceNeg, Int.reduceEq, String.reduceEq, Int.reduceLT, Int.reduceLE, Int.reduceToNat, Int.reduceAdd, Int.reduceMul, Int.reduceSub])
  have hat := fun h : k < l.length => dfixS_at now (l := l) h
  have hmem := fun h : k < l.length => List.mem_of_getElem? (getD_of_lt (s := l) (d := ([], [])) h)
  intro hlt
  have hlt' : k < l.length := by omega
  rw [Nat.zero_add, hat hlt']
  have h4 : (dfixF now (l.getD k ([], []))).2.length ≤ 1300 := by
    have := dfixF_le now (l.getD k ([], []))
    have := (f2 _ (hmem hlt')).2
    omega
  generalize l.getD k ([], []) = f at *
  have h1 := dfixF_name now f
  have h2 : datedB f.1 = false → (dfixF now f).2 = f.2 := fun h => by rw [dfixF, if_neg (by rw [h]; simp)]
  have h3 : (dfixF now f).2 ≠ f.2 → fixH (dfixF now f).2 later = (dfixF now f).2 := by
    intro h
    unfold dfixF at h ⊢
    split at h
    · rename_i hd
      rw [if_pos hd]
      exact fix_kept h later
    · exact absurd rfl h
  refine ⟨by omega, by omega, by omega, ⟨fun _ => by omega, fun _ => by omega⟩, fun _ => by omega, ⟨fun _ => by omega, fun _ => by omega⟩, ⟨fun _ _ => by omega, fun _ _ => by omega⟩, fun h => ?_, fun _ _ => ⟨by omega, by omega, by omega, ⟨fun _ => by omega, fun _ => by omega⟩, fun _ => by omega, ⟨fun _ => by omega, fun _ => hm.1, fun _ => hm.2⟩, ⟨fun _ => by omega, fun _ => by omega⟩, fun _ => by omega, fun g1 g2 => g2 (h3 g1), fun _ => ⟨by omega, k + 1, by omega, by omega, by omega⟩⟩⟩
  rcases h with h | ⟨h, hd⟩
  · exact h h1
  · exact h (h2 hd)
def tb_specLawStays : List Blk → List AV → Option (List Blk × AV × Prop)
  | [], [a0, .int .i64 now, .int .i64 later] => some ([], .bool true, ((dec_flds a0).length ≤ maxLen) ∧ (inR .i64 now) ∧ (inR .i64 later) ∧ argOK a0 (enc_flds (dec_flds a0)))
  | _, _ => none
theorem tb_specLawStays_ok : ∀ E args E' res p, tb_specLawStays E args = some (E', res, p) → p → SpecE Try.prog 8 E args E' res := by
  intro E args E' res p h hp
  unfold tb_specLawStays at h
  split at h
  · simp only [Option.some.injEq, Prod.mk.injEq] at h
    obtain ⟨rfl, rfl, rfl⟩ := h
    exact SpecE.args (specLawStays _ _ _ hp.1 hp.2.1 hp.2.2.1) (.cons hp.2.2.2 (.cons (argOK.refl _) (.cons (argOK.refl _) .nil)))
  · cases h
end Go.Proofs.Try.Dfx
