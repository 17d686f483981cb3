/- civil: the day of a place. No condition. -/
import Derived.Test.YtjkihmffmpoalaaCivC
set_option linter.unusedVariables false
set_option linter.unusedSimpArgs false
namespace Go.Proofs.Try.Civil
open Go Go.Abs Go.Proofs

def oE (n : Int) : Int := (n + 719468) / 146097
def oR0 (n : Int) : Int := (n + 719468) % 146097
def oC (n : Int) : Int := min (oR0 n / 36524) 3
def oR1 (n : Int) : Int := oR0 n - oC n * 36524
def oF (n : Int) : Int := oR1 n / 1461
def oR2 (n : Int) : Int := oR1 n - oF n * 1461
def oO (n : Int) : Int := min (oR2 n / 365) 3
def oR3 (n : Int) : Int := oR2 n - oO n * 365
def oY0 (n : Int) : Int := oE n * 400 + (oC n * 100 + oF n * 4 + oO n)
def oP (n : Int) : Int := (5 * oR3 n + 2) / 153
def oD (n : Int) : Int := oR3 n - (153 * oP n + 2) / 5 + 1
def oM (n : Int) : Int := (oP n + 2) % 12 + 1
def oY (n : Int) : Int := if 10 ≤ oP n then oY0 n + 1 else oY0 n
def inDays (n : Int) : Bool := decide (-719162 ≤ n ∧ n ≤ 2932896)
def aY (n : Int) : Int := if inDays n = true then oY n else 0
def aM (n : Int) : Int := if inDays n = true then oM n else 0
def aD (n : Int) : Int := if inDays n = true then oD n else 0

theorem o_bounds {n : Int} (h : -719162 ≤ n ∧ n ≤ 2932896) : 0 ≤ oE n ∧ oE n ≤ 24 ∧ 0 ≤ oR0 n ∧ oR0 n ≤ 146096 ∧ 0 ≤ oC n ∧ oC n ≤ 3 ∧ 0 ≤ oR1 n ∧ oR1 n ≤ 36524 ∧ 0 ≤ oF n ∧ oF n ≤ 24 ∧ 0 ≤ oR2 n ∧ oR2 n ≤ 1460 ∧ 0 ≤ oO n ∧ oO n ≤ 3 ∧ 0 ≤ oR3 n ∧ oR3 n ≤ 365 := by
  have h1 : 0 ≤ oE n ∧ oE n ≤ 24 ∧ 0 ≤ oR0 n ∧ oR0 n ≤ 146096 := by unfold oE oR0; omega
  have h2 : 0 ≤ oC n ∧ oC n ≤ 3 ∧ 0 ≤ oR1 n ∧ oR1 n ≤ 36524 := by unfold oR1 oC; omega
  have h3 : 0 ≤ oF n ∧ oF n ≤ 24 ∧ 0 ≤ oR2 n ∧ oR2 n ≤ 1460 := by unfold oR2 oF; omega
  have h4 : 0 ≤ oO n ∧ oO n ≤ 3 ∧ 0 ≤ oR3 n ∧ oR3 n ≤ 365 := by unfold oR3 oO; omega
  omega

set_option maxRecDepth 100000 in
set_option maxHeartbeats 2000000 in
theorem specOf (n : Int) : SpecE Try.prog 25 [] [.int .i64 n] [] (.tuple [.int .i64 (aY n), .int .i64 (aM n), .int .i64 (aD n), .bool (inDays n)]) := by
  refine specF0 (C := nilT) (wr := false) (D := fun _ => []) (U := fun _ => none) (res := [.int .i64 (aY n), .int .i64 (aM n), .int .i64 (aD n), .bool (inDays n)]) mixed nilT_ok Try.func25 (nA := 1) (by decide +kernel) rfl (fun _ => rfl) ?_
  simp only [Try.f25, bodyOf, rlOf]
  rw [W_V]
  simp only [V_skip, V_label, V_regF, V_regT, V_seq, V_cond, V_block, V_loop, V_exit, V_ret, kseq_normal, kseq_exit, kseq_ret, kblk_normal, kblk_exit, kblk_ret, kinv_normal, kinv_exit, kinv_ret, VO_nil, VO_cons, VD_nil, VD_cons, VP_none, VPQ_none, VP_some, VPQ_some, WeakE, noAnyT, subTE, subBE, blkE, extsOK, stepP_some, stepQ_some, grdP_nil, grdP_cons, grdP_none, grdQ_nil, grdQ_none, cndP_bool, serP_true, serP_false, wrapP_some, wrapE_some, wrapP_none, wrapE_none, orR_some, orR_none, es_move, es_assign, es_pick, es_binOp, es_unOp, es_index, es_field, es_fieldAddr, es_extract, es_build, es_nilCheck, es_makeFunc, es_max, es_min, es_load, es_indexAddr, es_slice, es_convert, es_len, es_alloc, es_box, es_buildSlice, es_makeSlice, es_store, es_range, es_next, es_append, es_call, guardE, evPure, evRead, evEff, evCall, evCallP, evPick, evNilCheck, evBuiltin, evBin, evUn, evConv, evExtract, evIndex, evField, evFieldAddr, evIndexAddr, evSlice, evLen, evMax, evMin, evBuild, boundA, unO, idOf, rdLen, rdIndexAddr, rdSlice, rdLoad, rdText, efStore, arrT, efBoxed, boxC, efBuildSlice, efMake, efBytes, elemsA, efRange, efNext, srcA, srcT, efAppend, purA, purL, AV.un, AV.uc, ucL, opnds, arithV, arithP, St.ev, St.get, St.lk, St.put, St.upd, lkA, lkB, AV.ofVal, St.init, argT, extB, scal, ren, renL, renB, sig, newBlks, marks, freshIds, deadId, addT, nilT, setAt, fillA, placesL, AV.cells, FinR, FinS, noAny, subP, resR, slotE, inR, isBoolT, AV.flat, AV.shaped, AV.one, one1, oneT, c0, c1, c2, c3, idsOK, idsOKL, evCall1, evCallH, pids, pidsL, mids, midsL, hasId, allIds, blkIds, reach, idxOf, sigH, handE, hpL, keptOK, sameBlks, apartIds, noDup, orT_some, orT_none, FinE, FinEv, sigX, okX, argOK, enc_u8, dec_u8, enc_strs, dec_strs, enc_ints, dec_ints, enc_bytes, dec_bytes, toStr, toInt, listOf, map_str_toStr, map_int_toInt, map_byte_toByte, dec_u8_byte, pidsL_append, pidsL_map, ren_map, call1a, call1b, call1c, reachI, handE1, hpArg, hpJoin, kept1, callHa, callHb, callHi, orH_some, orH_none, evBinX, evBinS, evEqB, evEqO, evEqOp, otherA, evEq, evEqS, evEqF, fldA, eqInt, eqBool, eqStr, eqPtr, eqSl, eqFn, seqU_none, seqU_some, fstR, kcut_normal, kcut_exit, kcut_ret, List.map_cons, List.map_nil, List.map_toArray, List.toList_toArray, List.cons_append, List.nil_append, List.append_nil, List.append_assoc, Option.toList_some, Option.toList_none, List.getElem?_cons_zero, List.getElem?_cons_succ, List.getElem?_toArray, List.size_toArray, List.length_cons, List.length_nil, Option.getD_some, Option.getD_none, reduceIte, Nat.reduceEqDiff, Nat.reduceAdd, Nat.reduceMul, Nat.reduceSub, Nat.reduceBEq, Nat.reduceLT, Nat.reduceLeDiff, true_and, and_true, implies_true, forall_const, if_true, if_false, ite_true, ite_false, Bool.true_and, Bool.and_true, Bool.false_and, Bool.and_false, beq_self_eq_true, beq_true, beq_false, imp_self, false_implies, and_self,  Bool.true_beq, Bool.false_beq, reduceCtorEq, Int.reduceNeg, ne_eq, not_false_eq_true, Int.reduceEq, String.reduceEq, Int.reduceLT, Int.reduceLE, Int.reduceToNat, Int.reduceAdd, Int.reduceMul, Int.reduceSub, Function.comp, eq_self, cond_true, cond_false, Bool.not_true, Bool.not_false, Bool.true_eq_false, Bool.false_eq_true, Bool.and_eq_true, Bool.not_eq_true', Bool.not_not, and_imp, List.take_succ_cons, List.take_zero, List.drop_succ_cons, List.drop_zero, List.mem_cons, List.not_mem_nil, forall_eq_or_imp, or_false, forall_eq, false_or, List.all_cons, List.all_nil, List.replicate_succ, List.replicate_zero, List.mem_nil_iff, Option.map_some, Option.map_none, List.flatMap_cons, List.flatMap_nil, Bool.true_or, Bool.or_true, Bool.false_or, Bool.or_false, List.set_cons_zero, List.set_cons_succ, List.getD_cons_zero, List.getD_cons_succ, Bool.cond_true_left, Bool.cond_false_right, Bool.or_eq_true, Bool.or_eq_false_iff, decide_eq_true_eq, decide_eq_false_iff_not, Int.not_lt, Int.not_le, uInt, uBool]
  have hin : inDays n = true ↔ -719162 ≤ n ∧ n ≤ 2932896 := by simp [inDays]
  refine ⟨fun h => ?_, fun h1 h2 => ?_⟩
  · have : inDays n = false := by rw [← Bool.not_eq_true, hin]; omega
    simp [aY, aM, aD, this]
  have hi : inDays n = true := hin.2 (by omega)
  obtain ⟨b1, b2, b3, b4, b5, b6, b7, b8, b9, b10, b11, b12, b13, b14, b15, b16⟩ := o_bounds (hin.1 hi)
  have qE : (n + 719468).tdiv 146097 = oE n := quo_nn _ (by omega)
  have q0 : (n + 719468).tmod 146097 = oR0 n := rem_nn _ (by omega)
  have qC : (oR0 n).tdiv 36524 = oR0 n / 36524 := quo_nn _ b3
  have fC : min (oR0 n / 36524) 3 = oC n := rfl
  have f1 : oR0 n - oC n * 36524 = oR1 n := rfl
  have qF : (oR1 n).tdiv 1461 = oF n := quo_nn _ b7
  have f2 : oR1 n - oF n * 1461 = oR2 n := rfl
  have qO : (oR2 n).tdiv 365 = oR2 n / 365 := quo_nn _ b11
  have fO : min (oR2 n / 365) 3 = oO n := rfl
  have f3 : oR2 n - oO n * 365 = oR3 n := rfl
  have fY : oE n * 400 + (oC n * 100 + oF n * 4 + oO n) = oY0 n := rfl
  have qP : (5 * oR3 n + 2).tdiv 153 = oP n := quo_nn _ (by omega)
  have bP : 0 ≤ oP n ∧ oP n ≤ 11 := by unfold oP; omega
  have qD : (153 * oP n + 2).tdiv 5 = (153 * oP n + 2) / 5 := quo_nn _ (by omega)
  have fD : oR3 n - (153 * oP n + 2) / 5 + 1 = oD n := rfl
  have qM : (oP n + 2).tmod 12 = (oP n + 2) % 12 := rem_nn _ (by omega)
  have fM : (oP n + 2) % 12 + 1 = oM n := rfl
  have bY : 0 ≤ oY0 n ∧ oY0 n ≤ 9999 := by unfold oY0; omega
  have bD : -400 ≤ oD n ∧ oD n ≤ 400 := by unfold oD; omega
  simp only [aY, aM, aD, qE, q0, qC, fC, f1, qF, f2, qO, fO, f3, fY, qP, qD, fD, qM, fM, hi, if_true]
  have r0 : -9223372036854775808 ≤ oR0 n / 36524 ∧ oR0 n / 36524 ≤ 9223372036854775807 := by omega
  have r2 : -9223372036854775808 ≤ oR2 n / 365 ∧ oR2 n / 365 ≤ 9223372036854775807 := by omega
  and_intros
  all_goals try omega
  · intro h10
    simp only [oY, if_pos h10]
    and_intros <;> first | omega | trivial
  · intro h10
    simp only [oY, if_neg (show ¬ 10 ≤ oP n by omega)]
    and_intros <;> first | omega | trivial
end Go.Proofs.Try.Civil
