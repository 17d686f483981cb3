/- hop: the walks of the document's answer, and of the statements. No condition beyond those that a machine's numbers bring. -/
import Derived.Test.YtanpmebamgnhbaaHop
import Derived.Test.YtanpmebamgnhbaaConR
set_option linter.unusedVariables false
set_option linter.unusedSimpArgs false
namespace Go.Proofs.Try.Hop
open Go Go.Abs Go.Proofs Go.Mdl

def T_specNames : Tbl := fun g E args => nilT g E args
theorem T_specNames_ok : TblOK Try.prog T_specNames := nilT_ok
set_option maxRecDepth 100000 in
set_option maxHeartbeats 4000000 in
theorem specNames (l : List Fld) (hl : l.length ≤ 1000) (hq : ∀ f ∈ l, f.2.length ≤ 900) : SpecE Try.prog 72 [] [enc_flds l] [] (enc_strs (hopN l)) := by
  cases h : conOk l with | true => exact specNamesA l hl hq h | false => exact specNamesB l hl hq h
def tb_specNames : List Blk → List AV → Option (List Blk × AV × Prop)
  | [], [a0] => some ([], enc_strs (hopN (dec_flds a0)), ((dec_flds a0).length ≤ 1000) ∧ (∀ f ∈ (dec_flds a0), f.2.length ≤ 900) ∧ argOK a0 (enc_flds (dec_flds a0)))
  | _, _ => none
theorem tb_specNames_ok : ∀ E args E' res p, tb_specNames E args = some (E', res, p) → p → SpecE Try.prog 72 E args E' res := by
  intro E args E' res p h hp
  unfold tb_specNames at h
  split at h
  · simp only [Option.some.injEq, Prod.mk.injEq] at h
    obtain ⟨rfl, rfl, rfl⟩ := h
    exact SpecE.args (specNames _ hp.1 hp.2.1) (.cons hp.2.2 .nil)
  · cases h

def T_specStrip : Tbl := fun g E args => (addT (addT nilT 72 Go.Proofs.Try.Hop.tb_specNames) 88 Go.Proofs.Try.Hdr.tb_specWithout) g E args
theorem T_specStrip_ok : TblOK Try.prog T_specStrip := (addT_ok (addT_ok nilT_ok (by decide +kernel) Go.Proofs.Try.Hop.tb_specNames_ok) (by decide +kernel) Go.Proofs.Try.Hdr.tb_specWithout_ok)
set_option maxRecDepth 100000 in
set_option maxHeartbeats 4000000 in
theorem specStrip (l : List Fld) (hl : l.length ≤ 1000) (hq : ∀ f ∈ l, f.2.length ≤ 900) : SpecE Try.prog 75 [] [enc_flds l] [] (enc_flds (hopS l)) := by
  refine specF0 (C := T_specStrip) (wr := false) (D := fun _ => []) (U := fun _ => none) (res := [enc_flds (hopS l)]) Try.Ty.mixed T_specStrip_ok Try.func75 (nA := 1) (by decide +kernel) rfl (fun _ => rfl) ?_
  simp only [Try.f75, bodyOf, rlOf]
  rw [W_V]
  simp (config := {maxSteps := 2000000}) only [T_specStrip, Go.Proofs.Try.Hop.tb_specNames, Go.Proofs.Try.Hdr.tb_specWithout, go_sem, reduceIte, Nat.reduceEqDiff, Nat.reduceAdd, Nat.reduceMul, Nat.reduceSub, Nat.reduceBEq, Nat.reduceLT, Nat.reduceLeDiff, reduceCtorEq, Int.reduceNeg, Int.reduceEq, String.reduceEq, Int.reduceLT, Int.reduceLE, Int.reduceToNat, Int.reduceAdd, Int.reduceMul, Int.reduceSub]
  (try simp (config := {maxSteps := 2000000}) only [gimp, impB, isT, go_sem, reduceIte, Nat.reduceEqDiff, Nat.reduceAdd, Nat.reduceMul, Nat.reduceSub, Nat.reduceBEq, Nat.reduceLT, Nat.reduceLeDiff, reduceCtorEq, Int.reduceNeg, Int.reduceEq, String.reduceEq, Int.reduceLT, Int.reduceLE, Int.reduceToNat, Int.reduceAdd, Int.reduceMul, Int.reduceSub])
  have hnl : (hopN l).length ≤ 902010 ∧ ∀ x ∈ hopN l, x.length ≤ 902000 := hopN_len3 hl hq
  have hm : (902010 : Nat) ≤ maxLen := by decide
  refine ⟨⟨hl, hq⟩, ⟨by omega, by omega, fun x hx => by have := hnl.2 x hx; omega⟩, ?_, by rw [delP_len]⟩
  exact congrArg _ (delP_take _ _ _)
def tb_specStrip : List Blk → List AV → Option (List Blk × AV × Prop)
  | [], [a0] => some ([], enc_flds (hopS (dec_flds a0)), ((dec_flds a0).length ≤ 1000) ∧ (∀ f ∈ (dec_flds a0), f.2.length ≤ 900) ∧ argOK a0 (enc_flds (dec_flds a0)))
  | _, _ => none
theorem tb_specStrip_ok : ∀ E args E' res p, tb_specStrip E args = some (E', res, p) → p → SpecE Try.prog 75 E args E' res := by
  intro E args E' res p h hp
  unfold tb_specStrip at h
  split at h
  · simp only [Option.some.injEq, Prod.mk.injEq] at h
    obtain ⟨rfl, rfl, rfl⟩ := h
    exact SpecE.args (specStrip _ hp.1 hp.2.1) (.cons hp.2.2 .nil)
  · cases h

def T_specNamesR : Tbl := fun g E args => (addT nilT 129 Go.Proofs.Try.ConR.tb_specWordsR) g E args
theorem T_specNamesR_ok : TblOK Try.prog T_specNamesR := (addT_ok nilT_ok (by decide +kernel) Go.Proofs.Try.ConR.tb_specWordsR_ok)
set_option maxRecDepth 100000 in
set_option maxHeartbeats 4000000 in
theorem specNamesR (l : List Fld) (hl : l.length ≤ 1000) (hf : ∀ f ∈ l, f.1.length ≤ 1000000) (hq : ∀ f ∈ l, f.2.length ≤ 900) : SpecE Try.prog 73 [] [enc_flds l] [] (enc_strs (hopN l)) := by
  refine specF0 (C := T_specNamesR) (wr := false) (D := fun _ => []) (U := fun _ => none) (res := [enc_strs (hopN l)]) Try.Ty.mixed T_specNamesR_ok Try.func73 (nA := 1) (by decide +kernel) rfl (fun _ => rfl) ?_
  simp only [Try.f73, bodyOf, rlOf]
  rw [W_V]
  simp (config := {maxSteps := 2000000}) only [T_specNamesR, Go.Proofs.Try.ConR.tb_specWordsR, go_sem, reduceIte, Nat.reduceEqDiff, Nat.reduceAdd, Nat.reduceMul, Nat.reduceSub, Nat.reduceBEq, Nat.reduceLT, Nat.reduceLeDiff, reduceCtorEq, Int.reduceNeg, Int.reduceEq, String.reduceEq, Int.reduceLT, Int.reduceLE, Int.reduceToNat, Int.reduceAdd, Int.reduceMul, Int.reduceSub, true_and]
  (try simp (config := {maxSteps := 2000000}) only [gimp, impB, isT, go_sem, reduceIte, Nat.reduceEqDiff, Nat.reduceAdd, Nat.reduceMul, Nat.reduceSub, Nat.reduceBEq, Nat.reduceLT, Nat.reduceLeDiff, reduceCtorEq, Int.reduceNeg, Int.reduceEq, String.reduceEq, Int.reduceLT, Int.reduceLE, Int.reduceToNat, Int.reduceAdd, Int.reduceMul, Int.reduceSub])
  refine ⟨⟨hl, hf, hq⟩, ?_⟩
  have hcnt : (conW l).length ≤ 902001 := by
    have h1 := wordsS_count (combS l nmConnection)
    have h2 := comb_len3 nmConnection hl hq
    unfold conW; omega
  have hlow : ∀ w ∈ conW l, lowerS w = w := fun w hw => conW_low hw
  have hN : hopN l = hopAlways ++ (conW l).filter fun w => !hopStays w := rfl
  rw [hN]
  generalize conW l = w at *
  refine VL_inv (X := Nat) (fun k => ⟨[(3, .ref 128 0 (7 + ((w.take k).filter fun w => !hopStays w).length) (7 + ((w.take k).filter fun w => !hopStays w).length)), (4, enc_strs w), (6, .int .i64 k)], [(128, .cells 1 false (.str []) ((hopAlways ++ (w.take k).filter fun w => !hopStays w).map .str))]⟩) (fun k => k ≤ w.length) (fun k => w.length - k) 0 ?_ ?_ ?_
  · simp only [hopAlways, List.take_zero, List.filter_nil, go_sem, go_sem, reduceIte, Nat.reduceEqDiff, Nat.reduceAdd, Nat.reduceMul, Nat.reduceSub, Nat.reduceBEq, Nat.reduceLT, Nat.reduceLeDiff, reduceCtorEq, Int.reduceNeg, Int.reduceEq, String.reduceEq, Int.reduceLT, Int.reduceLE, Int.reduceToNat, Int.reduceAdd, Int.reduceMul, Int.reduceSub]
    try rfl
  · exact Nat.zero_le _
  rintro k hk
  have hlen : (hopAlways ++ (w.take k).filter fun w => !hopStays w).length = 7 + ((w.take k).filter fun w => !hopStays w).length := by
    rw [List.length_append]; rfl
  simp (config := {maxSteps := 2000000}) only [T_specNamesR, Go.Proofs.Try.ConR.tb_specWordsR, go_sem, reduceIte, Nat.reduceEqDiff, Nat.reduceAdd, Nat.reduceMul, Nat.reduceSub, Nat.reduceBEq, Nat.reduceLT, Nat.reduceLeDiff, reduceCtorEq, Int.reduceNeg, Int.reduceEq, String.reduceEq, Int.reduceLT, Int.reduceLE, Int.reduceToNat, Int.reduceAdd, Int.reduceMul, Int.reduceSub, true_and]
  (try simp (config := {maxSteps := 2000000}) only [gimp, impB, isT, go_sem, reduceIte, Nat.reduceEqDiff, Nat.reduceAdd, Nat.reduceMul, Nat.reduceSub, Nat.reduceBEq, Nat.reduceLT, Nat.reduceLeDiff, reduceCtorEq, Int.reduceNeg, Int.reduceEq, String.reduceEq, Int.reduceLT, Int.reduceLE, Int.reduceToNat, Int.reduceAdd, Int.reduceMul, Int.reduceSub])
  have ht := fun h : k < w.length => take_succ_getD (s := w) [] h
  have hmem := fun h : k < w.length => List.mem_of_getElem? (getD_of_lt (s := w) (d := []) h)
  have hfl := List.length_filter_le (fun w => !hopStays w) (w.take k)
  have htl : (w.take k).length ≤ w.length := by rw [List.length_take]; omega
  refine ⟨fun hlt => ⟨by omega, ⟨fun _ => by omega, fun _ => by omega⟩, ⟨fun _ _ => by omega, fun _ _ => by omega⟩, fun g1 g2 g3 => ?_, fun g => ?_⟩, fun hge => ?_⟩
  · have hst := hopStays_iff (hlow _ (hmem (by omega)))
    have hno : hopStays (w.getD k []) = false := by
      rw [← Bool.not_eq_true, hst]; rintro (h | h | h)
      · exact g1 h
      · exact g2 h
      · exact g3 h
    have hfs : (w.take (k + 1)).filter (fun w => !hopStays w) = (w.take k).filter (fun w => !hopStays w) ++ [w.getD k []] := by
      rw [ht (by omega), List.filter_append, List.filter_cons_of_pos (by rw [hno]; rfl)]; rfl
    refine ⟨by omega, ⟨hlen.symm, by omega, by omega⟩, by omega, k + 1, ⟨⟨?_, by omega⟩, ?_⟩, by omega, by omega⟩
    · rw [hfs]; simp; omega
    · rw [hfs]; simp
  · have hst := hopStays_iff (hlow _ (hmem (by omega)))
    have hyes : hopStays (w.getD k []) = true := by
      rw [hst]
      by_cases g1 : w.getD k [] = [104, 111, 115, 116]
      · exact .inl g1
      · by_cases g2 : w.getD k [] = [99, 111, 110, 116, 101, 110, 116, 45, 108, 101, 110, 103, 116, 104]
        · exact .inr (.inl g2)
        · rw [decide_eq_false g1, decide_eq_false g2] at g
          exact .inr (.inr (by simpa using g))
    have hfs : (w.take (k + 1)).filter (fun w => !hopStays w) = (w.take k).filter (fun w => !hopStays w) := by
      rw [ht (by omega), List.filter_append, List.filter_cons_of_neg (by rw [hyes]; simp)]; simp
    refine ⟨by omega, k + 1, ⟨⟨?_, by omega⟩, ?_⟩, by omega, by omega⟩
    · rw [hfs]
    · rw [hfs]
  · rw [List.take_of_length_le (show w.length ≤ k by omega)] at hlen ⊢
    rw [← hlen, List.take_length]; exact ⟨rfl, rfl⟩
def tb_specNamesR : List Blk → List AV → Option (List Blk × AV × Prop)
  | [], [a0] => some ([], enc_strs (hopN (dec_flds a0)), ((dec_flds a0).length ≤ 1000) ∧ (∀ f ∈ (dec_flds a0), f.1.length ≤ 1000000) ∧ (∀ f ∈ (dec_flds a0), f.2.length ≤ 900) ∧ argOK a0 (enc_flds (dec_flds a0)))
  | _, _ => none
theorem tb_specNamesR_ok : ∀ E args E' res p, tb_specNamesR E args = some (E', res, p) → p → SpecE Try.prog 73 E args E' res := by
  intro E args E' res p h hp
  unfold tb_specNamesR at h
  split at h
  · simp only [Option.some.injEq, Prod.mk.injEq] at h
    obtain ⟨rfl, rfl, rfl⟩ := h
    exact SpecE.args (specNamesR _ hp.1 hp.2.1 hp.2.2.1) (.cons hp.2.2.2 .nil)
  · cases h

def T_specStripR : Tbl := fun g E args => (addT (addT nilT 73 Go.Proofs.Try.Hop.tb_specNamesR) 181 Go.Proofs.Try.HdrR.tb_specWithoutR) g E args
theorem T_specStripR_ok : TblOK Try.prog T_specStripR := (addT_ok (addT_ok nilT_ok (by decide +kernel) Go.Proofs.Try.Hop.tb_specNamesR_ok) (by decide +kernel) Go.Proofs.Try.HdrR.tb_specWithoutR_ok)
set_option maxRecDepth 100000 in
set_option maxHeartbeats 4000000 in
theorem specStripR (l : List Fld) (hl : l.length ≤ 1000) (hf : ∀ f ∈ l, f.1.length ≤ 1000000) (hq : ∀ f ∈ l, f.2.length ≤ 900) : SpecE Try.prog 76 [] [enc_flds l] [] (enc_flds (hopS l)) := by
  refine specF0 (C := T_specStripR) (wr := false) (D := fun _ => []) (U := fun _ => none) (res := [enc_flds (hopS l)]) Try.Ty.mixed T_specStripR_ok Try.func76 (nA := 1) (by decide +kernel) rfl (fun _ => rfl) ?_
  simp only [Try.f76, bodyOf, rlOf]
  rw [W_V]
  simp (config := {maxSteps := 2000000}) only [T_specStripR, Go.Proofs.Try.Hop.tb_specNamesR, Go.Proofs.Try.HdrR.tb_specWithoutR, go_sem, reduceIte, Nat.reduceEqDiff, Nat.reduceAdd, Nat.reduceMul, Nat.reduceSub, Nat.reduceBEq, Nat.reduceLT, Nat.reduceLeDiff, reduceCtorEq, Int.reduceNeg, Int.reduceEq, String.reduceEq, Int.reduceLT, Int.reduceLE, Int.reduceToNat, Int.reduceAdd, Int.reduceMul, Int.reduceSub]
  (try simp (config := {maxSteps := 2000000}) only [gimp, impB, isT, go_sem, reduceIte, Nat.reduceEqDiff, Nat.reduceAdd, Nat.reduceMul, Nat.reduceSub, Nat.reduceBEq, Nat.reduceLT, Nat.reduceLeDiff, reduceCtorEq, Int.reduceNeg, Int.reduceEq, String.reduceEq, Int.reduceLT, Int.reduceLE, Int.reduceToNat, Int.reduceAdd, Int.reduceMul, Int.reduceSub])
  have hnl : (hopN l).length ≤ 902010 ∧ ∀ x ∈ hopN l, x.length ≤ 902000 := hopN_len3 hl hq
  exact ⟨⟨hl, hf, hq⟩, ⟨by omega, by omega, hf, fun x hx => by have := hnl.2 x hx; omega⟩, rfl⟩
def tb_specStripR : List Blk → List AV → Option (List Blk × AV × Prop)
  | [], [a0] => some ([], enc_flds (hopS (dec_flds a0)), ((dec_flds a0).length ≤ 1000) ∧ (∀ f ∈ (dec_flds a0), f.1.length ≤ 1000000) ∧ (∀ f ∈ (dec_flds a0), f.2.length ≤ 900) ∧ argOK a0 (enc_flds (dec_flds a0)))
  | _, _ => none
theorem tb_specStripR_ok : ∀ E args E' res p, tb_specStripR E args = some (E', res, p) → p → SpecE Try.prog 76 E args E' res := by
  intro E args E' res p h hp
  unfold tb_specStripR at h
  split at h
  · simp only [Option.some.injEq, Prod.mk.injEq] at h
    obtain ⟨rfl, rfl, rfl⟩ := h
    exact SpecE.args (specStripR _ hp.1 hp.2.1 hp.2.2.1) (.cons hp.2.2.2 .nil)
  · cases h

def T_specLives : Tbl := fun g E args => (addT nilT 75 Go.Proofs.Try.Hop.tb_specStrip) g E args
theorem T_specLives_ok : TblOK Try.prog T_specLives := (addT_ok nilT_ok (by decide +kernel) Go.Proofs.Try.Hop.tb_specStrip_ok)
set_option maxRecDepth 100000 in
set_option maxHeartbeats 4000000 in
theorem specLives : SpecE Try.prog 71 [] [] [] (.bool true) := by
  refine specF0 (C := T_specLives) (wr := false) (D := fun _ => []) (U := fun _ => none) (res := [.bool true]) Try.Ty.mixed T_specLives_ok Try.func71 (nA := 0) (by decide +kernel) rfl (fun _ => rfl) ?_
  simp only [Try.f71, bodyOf, rlOf]
  rw [W_V]
  simp (config := {maxSteps := 2000000}) only [T_specLives, Go.Proofs.Try.Hop.tb_specStrip, go_sem, reduceIte, Nat.reduceEqDiff, Nat.reduceAdd, Nat.reduceMul, Nat.reduceSub, Nat.reduceBEq, Nat.reduceLT, Nat.reduceLeDiff, reduceCtorEq, Int.reduceNeg, Int.reduceEq, String.reduceEq, Int.reduceLT, Int.reduceLE, Int.reduceToNat, Int.reduceAdd, Int.reduceMul, Int.reduceSub, dec_fld_mk]
  (try simp (config := {maxSteps := 2000000}) only [gimp, impB, isT, go_sem, reduceIte, Nat.reduceEqDiff, Nat.reduceAdd, Nat.reduceMul, Nat.reduceSub, Nat.reduceBEq, Nat.reduceLT, Nat.reduceLeDiff, reduceCtorEq, Int.reduceNeg, Int.reduceEq, String.reduceEq, Int.reduceLT, Int.reduceLE, Int.reduceToNat, Int.reduceAdd, Int.reduceMul, Int.reduceSub])
  decide +kernel
def tb_specLives : List Blk → List AV → Option (List Blk × AV × Prop)
  | [], [] => some ([], .bool true, True)
  | _, _ => none
theorem tb_specLives_ok : ∀ E args E' res p, tb_specLives E args = some (E', res, p) → p → SpecE Try.prog 71 E args E' res := by
  intro E args E' res p h hp
  unfold tb_specLives at h
  split at h
  · simp only [Option.some.injEq, Prod.mk.injEq] at h
    obtain ⟨rfl, rfl, rfl⟩ := h
    exact specLives
  · cases h

def T_specLawStrips : Tbl := fun g E args => (addT (addT (addT (addT (addT (addT (addT (addT nilT 70 Go.Proofs.Try.HdrR.tb_specFew) 72 Go.Proofs.Try.Hop.tb_specNames) 73 Go.Proofs.Try.Hop.tb_specNamesR) 75 Go.Proofs.Try.Hop.tb_specStrip) 76 Go.Proofs.Try.Hop.tb_specStripR) 37 Go.Proofs.Try.Oct.tb_specSame) 74 Go.Proofs.Try.HdrR.tb_specSameF) 71 Go.Proofs.Try.Hop.tb_specLives) g E args
theorem T_specLawStrips_ok : TblOK Try.prog T_specLawStrips := (addT_ok (addT_ok (addT_ok (addT_ok (addT_ok (addT_ok (addT_ok (addT_ok nilT_ok (by decide +kernel) Go.Proofs.Try.HdrR.tb_specFew_ok) (by decide +kernel) Go.Proofs.Try.Hop.tb_specNames_ok) (by decide +kernel) Go.Proofs.Try.Hop.tb_specNamesR_ok) (by decide +kernel) Go.Proofs.Try.Hop.tb_specStrip_ok) (by decide +kernel) Go.Proofs.Try.Hop.tb_specStripR_ok) (by decide +kernel) Go.Proofs.Try.Oct.tb_specSame_ok) (by decide +kernel) Go.Proofs.Try.HdrR.tb_specSameF_ok) (by decide +kernel) Go.Proofs.Try.Hop.tb_specLives_ok)
set_option maxRecDepth 100000 in
set_option maxHeartbeats 4000000 in
theorem specLawStrips (l : List Fld) (hl : l.length ≤ maxLen) : SpecE Try.prog 16 [] [enc_flds l] [] (.bool true) := by
  refine specF0 (C := T_specLawStrips) (wr := false) (D := fun _ => []) (U := fun _ => none) (res := [.bool true]) Try.Ty.mixed T_specLawStrips_ok Try.func16 (nA := 1) (by decide +kernel) rfl (fun _ => rfl) ?_
  simp only [Try.f16, bodyOf, rlOf]
  rw [W_V]
  simp (config := {maxSteps := 2000000}) only [T_specLawStrips, Go.Proofs.Try.HdrR.tb_specFew, Go.Proofs.Try.Hop.tb_specNames, Go.Proofs.Try.Hop.tb_specNamesR, Go.Proofs.Try.Hop.tb_specStrip, Go.Proofs.Try.Hop.tb_specStripR, Go.Proofs.Try.Oct.tb_specSame, Go.Proofs.Try.HdrR.tb_specSameF, Go.Proofs.Try.Hop.tb_specLives, go_sem, reduceIte, Nat.reduceEqDiff, Nat.reduceAdd, Nat.reduceMul, Nat.reduceSub, Nat.reduceBEq, Nat.reduceLT, Nat.reduceLeDiff, reduceCtorEq, Int.reduceNeg, Int.reduceEq, String.reduceEq, Int.reduceLT, Int.reduceLE, Int.reduceToNat, Int.reduceAdd, Int.reduceMul, Int.reduceSub]
  (try simp (config := {maxSteps := 2000000}) only [gimp, impB, isT, go_sem, reduceIte, Nat.reduceEqDiff, Nat.reduceAdd, Nat.reduceMul, Nat.reduceSub, Nat.reduceBEq, Nat.reduceLT, Nat.reduceLeDiff, reduceCtorEq, Int.reduceNeg, Int.reduceEq, String.reduceEq, Int.reduceLT, Int.reduceLE, Int.reduceToNat, Int.reduceAdd, Int.reduceMul, Int.reduceSub])
  refine ⟨hl, fun hfew => ?_⟩
  obtain ⟨f1, f2⟩ := fewF_len hfew
  have c1 : l.length ≤ 1000 := by omega
  have c3 : ∀ f ∈ l, f.1.length ≤ 1000000 := fun f h => by have := (f2 f h).1; omega
  have c4 : ∀ f ∈ l, f.2.length ≤ 900 := fun f h => by have := (f2 f h).2; omega
  have hnl := hopN_len3 c1 c4
  have hsl := without_len l (hopN l)
  exact ⟨⟨c1, c4⟩, ⟨c1, c3, c4⟩, by omega, ⟨c1, c4⟩, ⟨c1, c3, c4⟩, by have : (hopS l).length ≤ l.length := hsl; omega⟩
def tb_specLawStrips : List Blk → List AV → Option (List Blk × AV × Prop)
  | [], [a0] => some ([], .bool true, ((dec_flds a0).length ≤ maxLen) ∧ argOK a0 (enc_flds (dec_flds a0)))
  | _, _ => none
theorem tb_specLawStrips_ok : ∀ E args E' res p, tb_specLawStrips E args = some (E', res, p) → p → SpecE Try.prog 16 E args E' res := by
  intro E args E' res p h hp
  unfold tb_specLawStrips at h
  split at h
  · simp only [Option.some.injEq, Prod.mk.injEq] at h
    obtain ⟨rfl, rfl, rfl⟩ := h
    exact SpecE.args (specLawStrips _ hp.1) (.cons hp.2 .nil)
  · cases h

def T_specLawLeaves : Tbl := fun g E args => (addT (addT (addT (addT (addT (addT (addT nilT 70 Go.Proofs.Try.HdrR.tb_specFew) 75 Go.Proofs.Try.Hop.tb_specStrip) 84 Go.Proofs.Try.Hdr.tb_specCount) 74 Go.Proofs.Try.HdrR.tb_specSameF) 86 Go.Proofs.Try.Con.tb_specHas) 85 Go.Proofs.Try.Oct.tb_specFold) 71 Go.Proofs.Try.Hop.tb_specLives) g E args
theorem T_specLawLeaves_ok : TblOK Try.prog T_specLawLeaves := (addT_ok (addT_ok (addT_ok (addT_ok (addT_ok (addT_ok (addT_ok nilT_ok (by decide +kernel) Go.Proofs.Try.HdrR.tb_specFew_ok) (by decide +kernel) Go.Proofs.Try.Hop.tb_specStrip_ok) (by decide +kernel) Go.Proofs.Try.Hdr.tb_specCount_ok) (by decide +kernel) Go.Proofs.Try.HdrR.tb_specSameF_ok) (by decide +kernel) Go.Proofs.Try.Con.tb_specHas_ok) (by decide +kernel) Go.Proofs.Try.Oct.tb_specFold_ok) (by decide +kernel) Go.Proofs.Try.Hop.tb_specLives_ok)
set_option maxRecDepth 100000 in
set_option maxHeartbeats 4000000 in
theorem specLawLeaves (l : List Fld) (hl : l.length ≤ maxLen) : SpecE Try.prog 18 [] [enc_flds l] [] (.bool true) := by
  refine specF0 (C := T_specLawLeaves) (wr := false) (D := fun _ => []) (U := fun _ => none) (res := [.bool true]) Try.Ty.mixed T_specLawLeaves_ok Try.func18 (nA := 1) (by decide +kernel) rfl (fun _ => rfl) ?_
  simp only [Try.f18, bodyOf, rlOf]
  rw [W_V]
  simp (config := {maxSteps := 2000000}) only [T_specLawLeaves, Go.Proofs.Try.HdrR.tb_specFew, Go.Proofs.Try.Hop.tb_specStrip, Go.Proofs.Try.Hdr.tb_specCount, Go.Proofs.Try.HdrR.tb_specSameF, Go.Proofs.Try.Con.tb_specHas, Go.Proofs.Try.Oct.tb_specFold, Go.Proofs.Try.Hop.tb_specLives, go_sem, reduceIte, Nat.reduceEqDiff, Nat.reduceAdd, Nat.reduceMul, Nat.reduceSub, Nat.reduceBEq, Nat.reduceLT, Nat.reduceLeDiff, reduceCtorEq, Int.reduceNeg, Int.reduceEq, String.reduceEq, Int.reduceLT, Int.reduceLE, Int.reduceToNat, Int.reduceAdd, Int.reduceMul, Int.reduceSub]
  (try simp (config := {maxSteps := 2000000}) only [gimp, impB, isT, go_sem, reduceIte, Nat.reduceEqDiff, Nat.reduceAdd, Nat.reduceMul, Nat.reduceSub, Nat.reduceBEq, Nat.reduceLT, Nat.reduceLeDiff, reduceCtorEq, Int.reduceNeg, Int.reduceEq, String.reduceEq, Int.reduceLT, Int.reduceLE, Int.reduceToNat, Int.reduceAdd, Int.reduceMul, Int.reduceSub])
  refine ⟨hl, fun hfew => ?_⟩
  obtain ⟨f1, f2⟩ := fewF_len hfew
  have c1 : l.length ≤ 1000 := by omega
  have c3 : ∀ f ∈ l, f.1.length ≤ 1000000 := fun f h => by have := (f2 f h).1; omega
  have c4 : ∀ f ∈ l, f.2.length ≤ 900 := fun f h => by have := (f2 f h).2; omega
  have hsl : (hopS l).length ≤ l.length := without_len l (hopN l)
  refine ⟨⟨c1, c4⟩, ?_⟩
  refine VL_inv (X := Nat) (fun i => ⟨[(0, enc_flds l), (3, enc_flds (hopS l)), (4, .int .i64 (withoutS (l.take i) (hopN l)).length), (16, enc_flds l), (17, .int .i64 l.length), (18, .int .i64 i)], []⟩) (fun i => i ≤ l.length) (fun i => l.length - i) 0 ?_ ?_ ?_
  · simp only [withoutS, List.take_zero, List.filter_nil, go_sem, go_sem, reduceIte, Nat.reduceEqDiff, Nat.reduceAdd, Nat.reduceMul, Nat.reduceSub, Nat.reduceBEq, Nat.reduceLT, Nat.reduceLeDiff, reduceCtorEq, Int.reduceNeg, Int.reduceEq, String.reduceEq, Int.reduceLT, Int.reduceLE, Int.reduceToNat, Int.reduceAdd, Int.reduceMul, Int.reduceSub]
    try rfl
  · exact Nat.zero_le _
  rintro i hi
  simp (config := {maxSteps := 2000000}) only [T_specLawLeaves, Go.Proofs.Try.HdrR.tb_specFew, Go.Proofs.Try.Hop.tb_specStrip, Go.Proofs.Try.Hdr.tb_specCount, Go.Proofs.Try.HdrR.tb_specSameF, Go.Proofs.Try.Con.tb_specHas, Go.Proofs.Try.Oct.tb_specFold, Go.Proofs.Try.Hop.tb_specLives, go_sem, reduceIte, Nat.reduceEqDiff, Nat.reduceAdd, Nat.reduceMul, Nat.reduceSub, Nat.reduceBEq, Nat.reduceLT, Nat.reduceLeDiff, reduceCtorEq, Int.reduceNeg, Int.reduceEq, String.reduceEq, Int.reduceLT, Int.reduceLE, Int.reduceToNat, Int.reduceAdd, Int.reduceMul, Int.reduceSub]
  (try simp (config := {maxSteps := 2000000}) only [gimp, impB, isT, go_sem, reduceIte, Nat.reduceEqDiff, Nat.reduceAdd, Nat.reduceMul, Nat.reduceSub, Nat.reduceBEq, Nat.reduceLT, Nat.reduceLeDiff, reduceCtorEq, Int.reduceNeg, Int.reduceEq, String.reduceEq, Int.reduceLT, Int.reduceLE, Int.reduceToNat, Int.reduceAdd, Int.reduceMul, Int.reduceSub])
  have hS : hopS l = withoutS l (hopN l) := rfl
  have hs := fun h : i < l.length => without_take_succ (l := l) (hopN l) h
  have hat := fun (h : i < l.length) (hk : isN (hopN l) (l.getD i ([], [])) = false) => without_at (hopN l) h hk
  have hcl := without_len (l.take i) (hopN l)
  have htl : (l.take i).length ≤ 40 := by rw [List.length_take]; omega
  have hmem := fun h : i < l.length => List.mem_of_getElem? (getD_of_lt (s := l) (d := ([], [])) h)
  have hm : (1000000 : Nat) ≤ maxLen := by decide
  have hgs : ∀ n, n < (hopS l).length → (hopS l).getD n ([], []) ∈ hopS l := fun n h => List.mem_of_getElem? (getD_of_lt (s := hopS l) (d := ([], [])) h)
  refine ⟨fun hlt => ?_, fun hge => ?_⟩
  · have hlt' : i < l.length := by omega
    refine ⟨by omega, fun _ => by omega, fun g1 g2 g3 => ⟨by omega, by omega, i + 1, ⟨?_, by omega⟩, by omega, by omega⟩, fun g => ⟨⟨by omega, by have := c3 _ (hmem hlt'); omega⟩, fun h => ?_, fun h => ⟨by omega, i + 1, ⟨?_, by omega⟩, by omega, by omega⟩⟩⟩
    · have he : l.getD i ([], []) = (hopS l).getD (withoutS (l.take i) (hopN l)).length ([], []) := Prod.ext g2 g3
      have hin := hgs (withoutS (l.take i) (hopN l)).length (by omega)
      rw [← he] at hin
      have hk := (hopS_mem.1 hin).2
      rw [hs hlt', if_neg (by rw [hk]; simp)]; simp
    · cases hk : isN (hopN l) (l.getD i ([], [])) with
      | true =>
        rw [hopS_gone hk] at h; simp at h
      | false =>
        obtain ⟨a1, a2⟩ := hat hlt' hk
        rw [← hS] at a1 a2
        rw [a2, decide_eq_true (by omega : ((withoutS (l.take i) (hopN l)).length : Int) < ((hopS l).length : Int))] at g
        simp at g
    · cases hk : isN (hopN l) (l.getD i ([], [])) with
      | true => rw [hs hlt', if_pos hk]; simp
      | false =>
        obtain ⟨a1, a2⟩ := hat hlt' hk
        rw [← hS] at a1 a2
        rw [a2, decide_eq_true (by omega : ((withoutS (l.take i) (hopN l)).length : Int) < ((hopS l).length : Int))] at g
        simp at g
  · rw [List.take_of_length_le (by omega), ← hS, hopS_idem]
    have c5 : ∀ f ∈ hopS l, f.2.length ≤ 900 := fun f hf => c4 f (hopS_mem.1 hf).1
    refine ⟨⟨fun _ => by omega, fun _ => c5⟩, fun _ => by omega, fun h => ?_, fun _ _ => ?_⟩
    · rcases h with h | h <;> exact h rfl
    refine VL_inv (X := Nat) (fun j => ⟨[(0, enc_flds l), (3, enc_flds (hopS l)), (53, enc_flds (hopS l)), (54, .int .i64 (hopS l).length), (55, .int .i64 j)], []⟩) (fun j => j ≤ (hopS l).length) (fun j => (hopS l).length - j) 0 ?_ ?_ ?_
    · simp only [go_sem, go_sem, reduceIte, Nat.reduceEqDiff, Nat.reduceAdd, Nat.reduceMul, Nat.reduceSub, Nat.reduceBEq, Nat.reduceLT, Nat.reduceLeDiff, reduceCtorEq, Int.reduceNeg, Int.reduceEq, String.reduceEq, Int.reduceLT, Int.reduceLE, Int.reduceToNat, Int.reduceAdd, Int.reduceMul, Int.reduceSub]
      try rfl
    · exact Nat.zero_le _
    rintro j hj
    simp (config := {maxSteps := 2000000}) only [T_specLawLeaves, Go.Proofs.Try.HdrR.tb_specFew, Go.Proofs.Try.Hop.tb_specStrip, Go.Proofs.Try.Hdr.tb_specCount, Go.Proofs.Try.HdrR.tb_specSameF, Go.Proofs.Try.Con.tb_specHas, Go.Proofs.Try.Oct.tb_specFold, Go.Proofs.Try.Hop.tb_specLives, go_sem, reduceIte, Nat.reduceEqDiff, Nat.reduceAdd, Nat.reduceMul, Nat.reduceSub, Nat.reduceBEq, Nat.reduceLT, Nat.reduceLeDiff, reduceCtorEq, Int.reduceNeg, Int.reduceEq, String.reduceEq, Int.reduceLT, Int.reduceLE, Int.reduceToNat, Int.reduceAdd, Int.reduceMul, Int.reduceSub]
    (try simp (config := {maxSteps := 2000000}) only [gimp, impB, isT, go_sem, reduceIte, Nat.reduceEqDiff, Nat.reduceAdd, Nat.reduceMul, Nat.reduceSub, Nat.reduceBEq, Nat.reduceLT, Nat.reduceLeDiff, reduceCtorEq, Int.reduceNeg, Int.reduceEq, String.reduceEq, Int.reduceLT, Int.reduceLE, Int.reduceToNat, Int.reduceAdd, Int.reduceMul, Int.reduceSub])
    have hm4 : (4 : Nat) ≤ maxLen := by decide
    refine ⟨fun hlt => ?_, fun _ => ⟨⟨by omega, hm4⟩, ⟨c1, hm4⟩, by rw [hop_host]⟩⟩
    have hin := hgs j (by omega)
    have hn : ((hopS l).getD j ([], [])).1.length ≤ maxLen := by have := c3 _ (hopS_mem.1 hin).1; omega
    obtain ⟨k1, k2, k3⟩ := hop_kept hin
    generalize (hopS l).getD j ([], []) = f at *
    have hH : conHas l f.1 = inL (conW l) (lowerS f.1) := rfl
    refine ⟨by omega, hn, fun _ => hn, fun _ _ => hn, ⟨c1, fun f hf => by have := c4 f hf; omega, hn⟩, fun _ => hn, fun _ _ => hn, fun h => ?_, fun _ _ _ => ⟨by omega, j + 1, by omega, by omega, by omega⟩⟩
    rcases h with (⟨h1, ⟨h2, h3⟩, h4⟩ | h) | h
    · have := k1 (by rw [← hH]; exact h1)
      simp only [hopStays, hopHeld, List.any_cons, List.any_nil, Bool.or_false, Bool.or_eq_true] at this
      rw [foldS_comm] at h2 h3 h4
      rw [h2, h3, h4] at this
      simp at this
    · rw [k2] at h; cases h
    · rw [k3] at h; cases h
def tb_specLawLeaves : List Blk → List AV → Option (List Blk × AV × Prop)
  | [], [a0] => some ([], .bool true, ((dec_flds a0).length ≤ maxLen) ∧ argOK a0 (enc_flds (dec_flds a0)))
  | _, _ => none
theorem tb_specLawLeaves_ok : ∀ E args E' res p, tb_specLawLeaves E args = some (E', res, p) → p → SpecE Try.prog 18 E args E' res := by
  intro E args E' res p h hp
  unfold tb_specLawLeaves at h
  split at h
  · simp only [Option.some.injEq, Prod.mk.injEq] at h
    obtain ⟨rfl, rfl, rfl⟩ := h
    exact SpecE.args (specLawLeaves _ hp.1) (.cons hp.2 .nil)
  · cases h
end Go.Proofs.Try.Hop
