/- params: the walks of the document's answer. No condition beyond those that a machine's numbers bring. -/
import Derived.Test.YtanpmebamgnhbaaPar
import Derived.Test.YtanpmebamgnhbaaLib
set_option linter.unusedVariables false
set_option linter.unusedSimpArgs false
namespace Go.Proofs.Try.Par
open Go Go.Abs Go.Proofs Go.Mdl

def T_specParamR : Tbl := fun g E args => (addT (addT (addT (addT nilT 257 Go.Proofs.Try.Cur.tb_specSkipR) 162 Go.Proofs.Try.Cur.tb_specTokenR) 258 Go.Proofs.Try.Cur.tb_specQuotedR) 50 Go.Proofs.Try.Oct.tb_specLowerR) g E args
theorem T_specParamR_ok : TblOK Try.prog T_specParamR := (addT_ok (addT_ok (addT_ok (addT_ok nilT_ok (by decide +kernel) Go.Proofs.Try.Cur.tb_specSkipR_ok) (by decide +kernel) Go.Proofs.Try.Cur.tb_specTokenR_ok) (by decide +kernel) Go.Proofs.Try.Cur.tb_specQuotedR_ok) (by decide +kernel) Go.Proofs.Try.Oct.tb_specLowerR_ok)
set_option maxRecDepth 100000 in
set_option maxHeartbeats 4000000 in
theorem specParamR (s : List UInt8) (hs : s.length ≤ 1000000) : SpecE Try.prog 163 [] [.str s] [] (.tuple [.agg [.str (if parHas s = true then parName s else []), .str (if parHas s = true then parVal s else [])], .str (if parHas s = true then parLeft s else []), .bool (!parBad s)]) := by
  refine specF0 (C := T_specParamR) (wr := false) (D := fun i => if i = 22 then [0, 6] else []) (U := fun _ => none) (res := [.agg [.str (if parHas s = true then parName s else []), .str (if parHas s = true then parVal s else [])], .str (if parHas s = true then parLeft s else []), .bool (!parBad s)]) Try.Ty.mixed T_specParamR_ok Try.func163 (nA := 1) (by decide +kernel) rfl (fun _ => rfl) ?_
  simp only [Try.f163, bodyOf, rlOf]
  rw [W_V]
  simp (config := {maxSteps := 2000000}) only [T_specParamR, Go.Proofs.Try.Cur.tb_specSkipR, Go.Proofs.Try.Cur.tb_specTokenR, Go.Proofs.Try.Cur.tb_specQuotedR, Go.Proofs.Try.Oct.tb_specLowerR, go_sem, reduceIte, Nat.reduceEqDiff, Nat.reduceAdd, Nat.reduceMul, Nat.reduceSub, Nat.reduceBEq, Nat.reduceLT, Nat.reduceLeDiff, reduceCtorEq, Int.reduceNeg, Int.reduceEq, String.reduceEq, Int.reduceLT, Int.reduceLE, Int.reduceToNat, Int.reduceAdd, Int.reduceMul, Int.reduceSub]
  (try simp (config := {maxSteps := 2000000}) only [gimp, impB, isT, go_sem, reduceIte, Nat.reduceEqDiff, Nat.reduceAdd, Nat.reduceMul, Nat.reduceSub, Nat.reduceBEq, Nat.reduceLT, Nat.reduceLeDiff, reduceCtorEq, Int.reduceNeg, Int.reduceEq, String.reduceEq, Int.reduceLT, Int.reduceLE, Int.reduceToNat, Int.reduceAdd, Int.reduceMul, Int.reduceSub])
  have hk := spanL_le blankB s
  have hdl : ∀ n, (s.drop n).length = s.length - n := fun n => by simp
  have hlast : 0 < (s.drop (spanL blankB s)).length → (s.drop (spanL blankB s)).getD 0 0 = 59 → semi s = true := fun h1 h2 => by
    simp only [semi, decide_eq_true_eq, Cur.head_iff]
    exact ⟨List.length_pos_iff.1 h1, h2⟩
  cases hs1 : semi s with
  | false =>
    have hh : parHas s = false := by simp [parHas, hs1]
    have hb : parBad s = true := by simp [parBad, hs1]
    refine ⟨hs, by omega, fun h => by omega, fun _ => by simp [hh, hb], fun h1 h2 => ?_⟩
    rw [hlast (by omega) h2] at hs1; cases hs1
  | true =>
    have hK : (s.drop (spanL blankB s)).drop 1 = s.drop (parK s) := by rw [List.drop_drop, parK, if_pos hs1]
    have hJ : (s.drop (parK s)).drop (spanL blankB (s.drop (parK s))) = s.drop (parJ s) := by rw [List.drop_drop]; rfl
    have hN : spanL tcharB (s.drop (parJ s)) = parN s := rfl
    have hR : (s.drop (parJ s)).drop (parN s) = parRest s := by rw [List.drop_drop]; rfl
    have hsem : (s.drop (spanL blankB s)).head? = some 59 := by simpa [semi] using hs1
    have hh1 := Cur.head_iff.1 hsem
    have hpos := List.length_pos_iff.2 hh1.1
    simp only [hK, hJ, hN, hR]
    have hjl := parJ_le s
    have hnl := parN_le s
    have hkl := parK_le s
    have hkj := span_drop_le blankB s (parK s) hkl
    have hrl : (parRest s).length = s.length - (parJ s + parN s) := by simp [parRest]
    refine ⟨hs, by omega, fun h => by omega, fun h => ?_, fun _ _ => ⟨by omega, by rw [hdl]; omega, by rw [hdl]; omega, by rw [hdl]; omega, fun hn => ?_, fun hn => ⟨by rw [hdl]; omega, by rw [List.length_take, hdl]; omega, by rw [hdl]; omega, by omega, ?_⟩⟩⟩
    · exfalso
      rcases h with h | h
      · omega
      · exact h hh1.2
    · have hn0 : parN s = 0 := by omega
      have hh : parHas s = false := by simp [parHas, hn0]
      have hb : parBad s = true := by simp [parBad, hn0]
      simp [hh, hb]
    have hn0 : parN s ≠ 0 := by omega
    have hh : parHas s = true := by simp [parHas, hs1, hn0]
    have hnm : lowerS ((s.drop (parJ s)).take (parN s)) = parName s := rfl
    have hbad : (!parBad s) = valOk (parRest s) := by simp [parBad, hs1, hn0]
    have hleft : parLeft s = (parRest s).drop (valTake (parRest s)) := by rw [parLeft, parTake, parRest, List.drop_drop]
    have hval : parVal s = valText (parRest s) := rfl
    simp only [hnm, hh, if_true, hbad, hleft, hval]
    generalize parRest s = r at *
    have hb := spanL_le blankB r
    have hrd : ∀ n, (r.drop n).length = r.length - n := fun n => by simp
    have hgd : (r.drop (spanL blankB r)).getD 0 0 = r.getD (spanL blankB r) 0 := drop_getD0
    have hK2 : spanL blankB r + 1 = valK r := rfl
    have hJ2 : (r.drop (valK r)).drop (spanL blankB (r.drop (valK r))) = r.drop (valJ r) := by rw [List.drop_drop]; rfl
    have hN2 : spanL tcharB (r.drop (valJ r)) = valN r := rfl
    simp only [hK2, hJ2, hN2]
    refine ⟨⟨fun _ => by omega, fun _ => by omega⟩, fun h => ?_, fun h1 h2 => ?_⟩
    · have he : eqAt r = false := by
        rw [← Bool.not_eq_true]
        intro he
        have he' : (r.drop (spanL blankB r)).head? = some 61 := by simpa [eqAt] using he
        have := Cur.head_iff.1 he'
        have hp := List.length_pos_iff.2 this.1
        rw [hrd] at hp
        rcases h with h | h
        · omega
        · exact h (by rw [← hgd]; exact this.2)
      simp [valText, valOk, valTake, he]
    · have he : eqAt r = true := by
        simp only [eqAt, decide_eq_true_eq, Cur.head_iff]
        exact ⟨List.length_pos_iff.1 (by rw [hrd]; omega), by rw [hgd]; exact h2⟩
      have hkl2 := eqAt_lt he
      have hjl2 := valJ_le he
      have hkj2 := span_drop_le blankB r (valK r) hkl2
      have hnl2 := span_drop_le tcharB r (valJ r) hjl2
      rw [hN2] at hnl2
      have hql := qLen_le (r.drop (valJ r))
      rw [hrd] at hql
      refine ⟨by omega, by omega, by rw [hrd]; omega, by rw [hrd]; omega, by rw [hrd]; omega, by rw [hrd]; omega, fun hz => ?_, fun hz => ?_⟩
      · have hz' : valN r = 0 := by omega
        refine ⟨by rw [hrd]; omega, by rw [hrd]; omega, ?_, ?_, ?_⟩
        · rw [valText, if_pos he, if_pos hz']
        · rw [valTake, if_pos he, if_pos hz', List.drop_drop]
        · rw [valOk, if_pos he, if_pos hz', qHas_len]
      · have hz' : ¬ valN r = 0 := by omega
        refine ⟨by rw [hrd]; omega, ?_, ?_, ?_⟩
        · rw [valText, if_pos he, if_neg hz']
        · rw [valTake, if_pos he, if_neg hz', List.drop_drop]
        · rw [valOk, if_pos he, if_neg hz']; simp; omega
def tb_specParamR : List Blk → List AV → Option (List Blk × AV × Prop)
  | [], [.str s] => some ([], .tuple [.agg [.str (if parHas s = true then parName s else []), .str (if parHas s = true then parVal s else [])], .str (if parHas s = true then parLeft s else []), .bool (!parBad s)], (s.length ≤ 1000000))
  | _, _ => none
theorem tb_specParamR_ok : ∀ E args E' res p, tb_specParamR E args = some (E', res, p) → p → SpecE Try.prog 163 E args E' res := by
  intro E args E' res p h hp
  unfold tb_specParamR at h
  split at h
  · simp only [Option.some.injEq, Prod.mk.injEq] at h
    obtain ⟨rfl, rfl, rfl⟩ := h
    exact (specParamR _ hp)
  · cases h

def T_specParseR : Tbl := fun g E args => (addT (addT (addT nilT 163 Go.Proofs.Try.Par.tb_specParamR) 162 Go.Proofs.Try.Cur.tb_specTokenR) 50 Go.Proofs.Try.Oct.tb_specLowerR) g E args
theorem T_specParseR_ok : TblOK Try.prog T_specParseR := (addT_ok (addT_ok (addT_ok nilT_ok (by decide +kernel) Go.Proofs.Try.Par.tb_specParamR_ok) (by decide +kernel) Go.Proofs.Try.Cur.tb_specTokenR_ok) (by decide +kernel) Go.Proofs.Try.Oct.tb_specLowerR_ok)
set_option maxRecDepth 100000 in
set_option maxHeartbeats 4000000 in
theorem specParseR (s : List UInt8) (hs : s.length ≤ 1000000) : SpecE Try.prog 52 [] [.str s] [] (.tuple [.str (parsName s), enc_flds (parsList s), .int .i64 (parsErr s)]) := by
  refine specF0 (C := T_specParseR) (wr := false) (D := fun _ => []) (U := fun _ => none) (res := [.str (parsName s), enc_flds (parsList s), .int .i64 (parsErr s)]) Try.Ty.mixed T_specParseR_ok Try.func52 (nA := 1) (by decide +kernel) rfl (fun _ => rfl) ?_
  simp only [Try.f52, bodyOf, rlOf]
  rw [W_V]
  simp (config := {maxSteps := 2000000}) only [T_specParseR, Go.Proofs.Try.Par.tb_specParamR, Go.Proofs.Try.Cur.tb_specTokenR, Go.Proofs.Try.Oct.tb_specLowerR, go_sem, reduceIte, Nat.reduceEqDiff, Nat.reduceAdd, Nat.reduceMul, Nat.reduceSub, Nat.reduceBEq, Nat.reduceLT, Nat.reduceLeDiff, reduceCtorEq, Int.reduceNeg, Int.reduceEq, String.reduceEq, Int.reduceLT, Int.reduceLE, Int.reduceToNat, Int.reduceAdd, Int.reduceMul, Int.reduceSub]
  (try simp (config := {maxSteps := 2000000}) only [gimp, impB, isT, go_sem, reduceIte, Nat.reduceEqDiff, Nat.reduceAdd, Nat.reduceMul, Nat.reduceSub, Nat.reduceBEq, Nat.reduceLT, Nat.reduceLeDiff, reduceCtorEq, Int.reduceNeg, Int.reduceEq, String.reduceEq, Int.reduceLT, Int.reduceLE, Int.reduceToNat, Int.reduceAdd, Int.reduceMul, Int.reduceSub])
  have hsp := spanL_le tcharB s
  have hrp : s.drop (spanL tcharB s) = restP s := rfl
  have hwp : s.take (spanL tcharB s) = wordP s := rfl
  have hrl : (restP s).length = s.length - spanL tcharB s := by simp [restP]
  simp only [hrp, hwp]
  refine ⟨fun h => by subst h; decide +kernel, fun h0 => ⟨hs, by omega, by simp only [wordP, List.length_take]; omega, fun hz => ?_, fun hz => ⟨by omega, ?_⟩⟩⟩
  · have hz' : spanL tcharB s = 0 := by omega
    have hok : parsOk s = false := by simp [parsOk, hz']
    simp [parsName, parsList, parsErr, hok, h0]
  have hz' : spanL tcharB s ≠ 0 := by omega
  refine VL_inv (X := List UInt8 × List (List UInt8 × List UInt8)) (fun y => ⟨[(0, .str y.1), (6, .str (lowerS (wordP s))), (7, .ref 320 0 y.2.length y.2.length)], [(320, .cells 2 false (.agg [.str [], .str []]) (y.2.map enc_fld))]⟩)
    (fun y => y.1.length + y.2.length ≤ s.length ∧ parsGo (restP s) = (parsGo y.1).map (y.2 ++ ·)) (fun y => y.1.length) (restP s, []) ?_ ?_ ?_
  · simp only [go_sem, go_sem, reduceIte, Nat.reduceEqDiff, Nat.reduceAdd, Nat.reduceMul, Nat.reduceSub, Nat.reduceBEq, Nat.reduceLT, Nat.reduceLeDiff, reduceCtorEq, Int.reduceNeg, Int.reduceEq, String.reduceEq, Int.reduceLT, Int.reduceLE, Int.reduceToNat, Int.reduceAdd, Int.reduceMul, Int.reduceSub]
    try rfl
  · refine ⟨by simp; omega, ?_⟩
    simp only [List.nil_append]
    cases parsGo (restP s) <;> rfl
  rintro ⟨t, l⟩ ⟨i1, i2⟩
  simp only at i1 i2
  simp (config := {maxSteps := 2000000}) only [T_specParseR, Go.Proofs.Try.Par.tb_specParamR, Go.Proofs.Try.Cur.tb_specTokenR, Go.Proofs.Try.Oct.tb_specLowerR, go_sem, reduceIte, Nat.reduceEqDiff, Nat.reduceAdd, Nat.reduceMul, Nat.reduceSub, Nat.reduceBEq, Nat.reduceLT, Nat.reduceLeDiff, reduceCtorEq, Int.reduceNeg, Int.reduceEq, String.reduceEq, Int.reduceLT, Int.reduceLE, Int.reduceToNat, Int.reduceAdd, Int.reduceMul, Int.reduceSub]
  (try simp (config := {maxSteps := 2000000}) only [gimp, impB, isT, go_sem, reduceIte, Nat.reduceEqDiff, Nat.reduceAdd, Nat.reduceMul, Nat.reduceSub, Nat.reduceBEq, Nat.reduceLT, Nat.reduceLeDiff, reduceCtorEq, Int.reduceNeg, Int.reduceEq, String.reduceEq, Int.reduceLT, Int.reduceLE, Int.reduceToNat, Int.reduceAdd, Int.reduceMul, Int.reduceSub])
  refine ⟨fun hne => ⟨by omega, fun hb => ?_, fun hb => ⟨by omega, (parLeft t, addPar l t), ?_, ⟨?_, ?_⟩, parLeft_lt hb⟩⟩, fun hnil => ?_⟩
  · rw [parsGo_bad hne hb] at i2
    have hok : parsOk s = false := by simp [parsOk, i2]
    simp [parsName, parsList, parsErr, hok, h0]
  · have hh : parHas t = true := by
      simp only [parBad, Bool.or_eq_false_iff, Bool.not_eq_false', decide_eq_false_iff_not] at hb
      simp [parHas, hb.1, hb.2.1]
    simp [hh, addPar, enc_fld]
  · have := parLeft_lt hb
    simp only [addPar, List.length_append, List.length_cons, List.length_nil]; omega
  · simp only
    rw [i2, parsGo_step hne hb]
    cases parsGo (parLeft t) with
    | none => rfl
    | some r => simp [addPar]
  · subst hnil
    rw [parsGo_nil] at i2
    have hok : parsOk s = true := by simp [parsOk, hz', i2]
    rw [List.take_length]
    exact ⟨by simp [parsName, hok], by simp [parsList, hok, i2], by simp [parsErr, h0, hok]⟩
def tb_specParseR : List Blk → List AV → Option (List Blk × AV × Prop)
  | [], [.str s] => some ([], .tuple [.str (parsName s), enc_flds (parsList s), .int .i64 (parsErr s)], (s.length ≤ 1000000))
  | _, _ => none
theorem tb_specParseR_ok : ∀ E args E' res p, tb_specParseR E args = some (E', res, p) → p → SpecE Try.prog 52 E args E' res := by
  intro E args E' res p h hp
  unfold tb_specParseR at h
  split at h
  · simp only [Option.some.injEq, Prod.mk.injEq] at h
    obtain ⟨rfl, rfl, rfl⟩ := h
    exact (specParseR _ hp)
  · cases h

def T_specPrintR : Tbl := fun g E args => (addT (addT nilT 166 Go.Proofs.Try.Oct.tb_specTokenR) 167 Go.Proofs.Try.Cur.tb_specQuoteR) g E args
theorem T_specPrintR_ok : TblOK Try.prog T_specPrintR := (addT_ok (addT_ok nilT_ok (by decide +kernel) Go.Proofs.Try.Oct.tb_specTokenR_ok) (by decide +kernel) Go.Proofs.Try.Cur.tb_specQuoteR_ok)
set_option maxRecDepth 100000 in
set_option maxHeartbeats 4000000 in
theorem specPrintR (n : List UInt8) (l : List (List UInt8 × List UInt8)) (hn : n.length ≤ 1000000) (hl : l.length ≤ 1000) (hq : ∀ p ∈ l, p.1.length ≤ 1000000 ∧ p.2.length ≤ 1000000) : SpecE Try.prog 57 [] [.str n, enc_flds l] [] (.tuple [.str (parsText n l), .bool (parsMay n l)]) := by
  refine specF0 (C := T_specPrintR) (wr := false) (D := fun _ => []) (U := fun _ => none) (res := [.str (parsText n l), .bool (parsMay n l)]) Try.Ty.mixed T_specPrintR_ok Try.func57 (nA := 2) (by decide +kernel) rfl (fun _ => rfl) ?_
  simp only [Try.f57, bodyOf, rlOf]
  rw [W_V]
  simp (config := {maxSteps := 2000000}) only [T_specPrintR, Go.Proofs.Try.Oct.tb_specTokenR, Go.Proofs.Try.Cur.tb_specQuoteR, go_sem, reduceIte, Nat.reduceEqDiff, Nat.reduceAdd, Nat.reduceMul, Nat.reduceSub, Nat.reduceBEq, Nat.reduceLT, Nat.reduceLeDiff, reduceCtorEq, Int.reduceNeg, Int.reduceEq, String.reduceEq, Int.reduceLT, Int.reduceLE, Int.reduceToNat, Int.reduceAdd, Int.reduceMul, Int.reduceSub]
  (try simp (config := {maxSteps := 2000000}) only [gimp, impB, isT, go_sem, reduceIte, Nat.reduceEqDiff, Nat.reduceAdd, Nat.reduceMul, Nat.reduceSub, Nat.reduceBEq, Nat.reduceLT, Nat.reduceLeDiff, reduceCtorEq, Int.reduceNeg, Int.reduceEq, String.reduceEq, Int.reduceLT, Int.reduceLE, Int.reduceToNat, Int.reduceAdd, Int.reduceMul, Int.reduceSub])
  refine ⟨by omega, ?_⟩
  refine VL_inv (X := Nat) (fun k => ⟨[(1, enc_flds l), (6, .str (textGo n (l.take k))), (7, .bool (tokenS n && (l.take k).all parMay)), (8, .int .i64 k)], []⟩) (fun k => k ≤ l.length) (fun k => l.length - k) 0 ?_ ?_ ?_
  · simp only [textGo, List.take_zero, List.flatMap_nil, List.append_nil, go_sem, go_sem, reduceIte, Nat.reduceEqDiff, Nat.reduceAdd, Nat.reduceMul, Nat.reduceSub, Nat.reduceBEq, Nat.reduceLT, Nat.reduceLeDiff, reduceCtorEq, Int.reduceNeg, Int.reduceEq, String.reduceEq, Int.reduceLT, Int.reduceLE, Int.reduceToNat, Int.reduceAdd, Int.reduceMul, Int.reduceSub]
    try rfl
  · exact Nat.zero_le _
  rintro k hk
  simp (config := {maxSteps := 2000000}) only [T_specPrintR, Go.Proofs.Try.Oct.tb_specTokenR, Go.Proofs.Try.Cur.tb_specQuoteR, go_sem, reduceIte, Nat.reduceEqDiff, Nat.reduceAdd, Nat.reduceMul, Nat.reduceSub, Nat.reduceBEq, Nat.reduceLT, Nat.reduceLeDiff, reduceCtorEq, Int.reduceNeg, Int.reduceEq, String.reduceEq, Int.reduceLT, Int.reduceLE, Int.reduceToNat, Int.reduceAdd, Int.reduceMul, Int.reduceSub]
  (try simp (config := {maxSteps := 2000000}) only [gimp, impB, isT, go_sem, reduceIte, Nat.reduceEqDiff, Nat.reduceAdd, Nat.reduceMul, Nat.reduceSub, Nat.reduceBEq, Nat.reduceLT, Nat.reduceLeDiff, reduceCtorEq, Int.reduceNeg, Int.reduceEq, String.reduceEq, Int.reduceLT, Int.reduceLE, Int.reduceToNat, Int.reduceAdd, Int.reduceMul, Int.reduceSub])
  have hb : k < l.length → (l.getD k ([], [])).1.length ≤ 1000000 ∧ (l.getD k ([], [])).2.length ≤ 1000000 := fun h => hq _ (List.mem_of_getElem? (getD_of_lt (s := l) (d := ([], [])) h))
  have hsnoc : k < l.length → textGo n (l.take (k + 1)) = textGo n (l.take k) ++ parText (l.getD k ([], [])) := fun h => by rw [take_succ_getD ([], []) h, textGo_snoc]
  have hall : k < l.length → (l.take (k + 1)).all parMay = ((l.take k).all parMay && parMay (l.getD k ([], []))) := fun h => by
    rw [take_succ_getD ([], []) h, List.all_append]; simp only [List.all_cons, List.all_nil, Bool.and_true]
  generalize l.getD k ([], []) = p at *
  have htl := textGo_len (n := n) (l := l.take k) (m := 1000000) (fun p hp => hq p (List.mem_of_mem_take hp))
  have htk : (l.take k).length ≤ 1000 := by rw [List.length_take]; omega
  have htl2 : (textGo n (l.take k)).length ≤ 1000000 + 1000 * (3 * 1000000 + 4) := Nat.le_trans htl (Nat.add_le_add (by omega) (Nat.mul_le_mul htk (Nat.le_refl _)))
  have hql := quoteS_len p.2
  have hp0 : (textGo n (l.take k) ++ [59]).length = (textGo n (l.take k)).length + 1 := by simp
  have hp1 : (textGo n (l.take k) ++ 59 :: p.1).length = (textGo n (l.take k)).length + p.1.length + 1 := by simp; omega
  have hp2 : (textGo n (l.take k) ++ 59 :: (p.1 ++ [61])).length = (textGo n (l.take k)).length + p.1.length + 2 := by simp; omega
  (repeat' (first | refine And.intro ?_ ?_ | intro _))
  all_goals (try first | omega | assumption | contradiction)
  · rename_i h1 h2
    refine ⟨k + 1, ⟨?_, ?_, by omega⟩, by omega, by omega⟩
    · rw [hsnoc (by omega), parText, if_neg h2]
    · rw [hall (by omega), parMay, decide_eq_false h2, Bool.false_or]; simp only [Bool.and_assoc]
  · rename_i h1 h2
    refine ⟨k + 1, ⟨?_, ?_, by omega⟩, by omega, by omega⟩
    · rw [hsnoc (by omega), parText, if_pos h2, List.append_nil]
    · rw [hall (by omega), parMay, decide_eq_true h2, Bool.true_or, Bool.and_true]; simp only [Bool.and_assoc]
  · rename_i h1 h2
    rw [List.take_of_length_le (by omega)] at h2
    simp [parsText, parsMay, h2]
  · rename_i h1 h2
    rw [List.take_of_length_le (by omega)] at h2
    simp [parsMay, h2]
  · rename_i h1 h2 h3
    rw [List.take_of_length_le (by omega)] at h3 ⊢
    simp [parsText, parsMay, h2, h3]
  · rename_i h1 h2 h3
    rw [List.take_of_length_le (by omega)] at h3
    simp [parsMay, h2, h3]
def tb_specPrintR : List Blk → List AV → Option (List Blk × AV × Prop)
  | [], [.str n, a1] => some ([], .tuple [.str (parsText n (dec_flds a1)), .bool (parsMay n (dec_flds a1))], (n.length ≤ 1000000) ∧ ((dec_flds a1).length ≤ 1000) ∧ (∀ p ∈ (dec_flds a1), p.1.length ≤ 1000000 ∧ p.2.length ≤ 1000000) ∧ argOK a1 (enc_flds (dec_flds a1)))
  | _, _ => none
theorem tb_specPrintR_ok : ∀ E args E' res p, tb_specPrintR E args = some (E', res, p) → p → SpecE Try.prog 57 E args E' res := by
  intro E args E' res p h hp
  unfold tb_specPrintR at h
  split at h
  · simp only [Option.some.injEq, Prod.mk.injEq] at h
    obtain ⟨rfl, rfl, rfl⟩ := h
    exact SpecE.args (specPrintR _ _ hp.1 hp.2.1 hp.2.2.1) (.cons (argOK.refl _) (.cons hp.2.2.2 .nil))
  · cases h
end Go.Proofs.Try.Par
