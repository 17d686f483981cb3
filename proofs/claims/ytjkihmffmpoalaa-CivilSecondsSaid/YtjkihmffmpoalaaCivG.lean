/- civil: seconds and dates, the walks. No condition. -/
import Derived.Test.YtjkihmffmpoalaaCivF
import Derived.Test.YtjkihmffmpoalaaTyp
set_option linter.unusedVariables false
set_option linter.unusedSimpArgs false
namespace Go.Proofs.Try.Civil
open Go Go.Abs Go.Proofs

def within (n most : Int) : Bool := decide (0 ≤ n ∧ n < most)
theorem specWithin (n m : Int) : SpecE Try.prog 58 [] [.int .i64 n, .int .i64 m] [] (.bool (within n m)) := by
  refine specF0 (C := nilT) (wr := false) (D := fun _ => []) (U := fun _ => none) (res := [.bool (within n m)]) mixed nilT_ok Try.func58 (nA := 2) (by decide +kernel) rfl (fun _ => rfl) ?_
  simp only [Try.f58, bodyOf, rlOf]
  rw [W_V]
  simp only [V_skip, V_label, V_regF, V_regT, V_seq, V_cond, V_block, V_loop, V_exit, V_ret, kseq_normal, kseq_exit, kseq_ret, kblk_normal, kblk_exit, kblk_ret, kinv_normal, kinv_exit, kinv_ret, VO_nil, VO_cons, VD_nil, VD_cons, VP_none, VPQ_none, VP_some, VPQ_some, WeakE, noAnyT, subTE, subBE, blkE, extsOK, stepP_some, stepQ_some, grdP_nil, grdP_cons, grdP_none, grdQ_nil, grdQ_none, cndP_bool, serP_true, serP_false, wrapP_some, wrapE_some, wrapP_none, wrapE_none, orR_some, orR_none, es_move, es_assign, es_pick, es_binOp, es_unOp, es_index, es_field, es_fieldAddr, es_extract, es_build, es_nilCheck, es_makeFunc, es_max, es_min, es_load, es_indexAddr, es_slice, es_convert, es_len, es_alloc, es_box, es_buildSlice, es_makeSlice, es_store, es_range, es_next, es_append, es_call, guardE, evPure, evRead, evEff, evCall, evCallP, evPick, evNilCheck, evBuiltin, evBin, evUn, evConv, evExtract, evIndex, evField, evFieldAddr, evIndexAddr, evSlice, evLen, evMax, evMin, evBuild, boundA, unO, idOf, rdLen, rdIndexAddr, rdSlice, rdLoad, rdText, efStore, arrT, efBoxed, boxC, efBuildSlice, efMake, efBytes, elemsA, efRange, efNext, srcA, srcT, efAppend, purA, purL, AV.un, AV.uc, ucL, opnds, arithV, arithP, St.ev, St.get, St.lk, St.put, St.upd, lkA, lkB, AV.ofVal, St.init, argT, extB, scal, ren, renL, renB, sig, newBlks, marks, freshIds, deadId, addT, nilT, setAt, fillA, placesL, AV.cells, FinR, FinS, noAny, subP, resR, slotE, inR, isBoolT, AV.flat, AV.shaped, AV.one, one1, oneT, c0, c1, c2, c3, idsOK, idsOKL, evCall1, evCallH, pids, pidsL, mids, midsL, hasId, allIds, blkIds, reach, idxOf, sigH, handE, hpL, keptOK, sameBlks, apartIds, noDup, orT_some, orT_none, FinE, FinEv, sigX, okX, argOK, enc_u8, dec_u8, enc_strs, dec_strs, enc_ints, dec_ints, enc_bytes, dec_bytes, toStr, toInt, listOf, map_str_toStr, map_int_toInt, map_byte_toByte, dec_u8_byte, pidsL_append, pidsL_map, ren_map, call1a, call1b, call1c, reachI, handE1, hpArg, hpJoin, kept1, callHa, callHb, callHi, orH_some, orH_none, evBinX, evBinS, evEqB, evEqO, evEqOp, otherA, evEq, evEqS, evEqF, fldA, eqInt, eqBool, eqStr, eqPtr, eqSl, eqFn, seqU_none, seqU_some, fstR, kcut_normal, kcut_exit, kcut_ret, List.map_cons, List.map_nil, List.map_toArray, List.toList_toArray, List.cons_append, List.nil_append, List.append_nil, List.append_assoc, Option.toList_some, Option.toList_none, List.getElem?_cons_zero, List.getElem?_cons_succ, List.getElem?_toArray, List.size_toArray, List.length_cons, List.length_nil, Option.getD_some, Option.getD_none, reduceIte, Nat.reduceEqDiff, Nat.reduceAdd, Nat.reduceMul, Nat.reduceSub, Nat.reduceBEq, Nat.reduceLT, Nat.reduceLeDiff, true_and, and_true, implies_true, forall_const, if_true, if_false, ite_true, ite_false, Bool.true_and, Bool.and_true, Bool.false_and, Bool.and_false, beq_self_eq_true, beq_true, beq_false, imp_self, false_implies, and_self,  Bool.true_beq, Bool.false_beq, reduceCtorEq, Int.reduceNeg, ne_eq, not_false_eq_true, Int.reduceEq, String.reduceEq, Int.reduceLT, Int.reduceLE, Int.reduceToNat, Int.reduceAdd, Int.reduceMul, Int.reduceSub, Function.comp, eq_self, cond_true, cond_false, Bool.not_true, Bool.not_false, Bool.true_eq_false, Bool.false_eq_true, Bool.and_eq_true, Bool.not_eq_true', Bool.not_not, and_imp, List.take_succ_cons, List.take_zero, List.drop_succ_cons, List.drop_zero, List.mem_cons, List.not_mem_nil, forall_eq_or_imp, or_false, forall_eq, false_or, List.all_cons, List.all_nil, List.replicate_succ, List.replicate_zero, List.mem_nil_iff, Option.map_some, Option.map_none, List.flatMap_cons, List.flatMap_nil, Bool.true_or, Bool.or_true, Bool.false_or, Bool.or_false, List.set_cons_zero, List.set_cons_succ, List.getD_cons_zero, List.getD_cons_succ, Bool.cond_true_left, Bool.cond_false_right, Bool.or_eq_true, Bool.or_eq_false_iff, decide_eq_true_eq, decide_eq_false_iff_not, Int.not_lt, Int.not_le, uInt, uBool]
  simp [within]

def T7 : Tbl := fun g E args => addT T6 58 (c2 (fun n m => .bool (within n m)) (fun _ _ => True)) g E args
theorem T7_ok : TblOK Try.prog T7 := add2 T6_ok (by decide +kernel) (fun n m _ => specWithin n m)

def secOk (y m d h mi s : Int) : Bool := right y m d && within h 24 && within mi 60 && within s 60
def secNo (y m d h mi s : Int) : Int := if secOk y m d h mi s = true then dayNo y m d * 86400 + h * 3600 + mi * 60 + s else 0

theorem dayNo_bounds {y m d : Int} (h : right y m d = true) : -719162 ≤ dayNo y m d ∧ dayNo y m d ≤ 2932896 := by
  obtain ⟨h1, h2, h3, h4, h5, h6⟩ := right_bounds h
  have l1 := (right_iff.1 h).2.2.2
  have s1 := cum_step (y := y) (m := m) ⟨h3, h4⟩
  have g1 : 0 ≤ cum y m := (cum_bounds ⟨h3, by omega⟩).1
  have t1 : cum y 13 = whole y := by unfold whole; by_cases hl : leap y = true <;> simp [cum, cumL, hl]
  have u1 : cum y (m + 1) ≤ cum y 13 := by
    by_cases e12 : m = 12
    · subst e12; exact Int.le_refl _
    · have := cum_mono (y := y) (a := m) (b := 13) h3 (by omega) (by omega); exact this
  have w1 := dby_whole y
  have d1 : 0 ≤ dby y := (dby_bounds ⟨h1, by omega⟩).1
  have d2 : dby 10000 = 3652059 := by decide
  have d3 : dby (y + 1) ≤ dby 10000 := by
    by_cases e : y = 9999
    · subst e; exact Int.le_refl _
    · exact dby_mono (by omega)
  unfold dayNo; omega

theorem within_iff {a b : Int} : within a b = true ↔ 0 ≤ a ∧ a < b := by simp [within]
theorem secOk_iff {y m d h mi s : Int} : secOk y m d h mi s = true ↔ right y m d = true ∧ (0 ≤ h ∧ h < 24) ∧ (0 ≤ mi ∧ mi < 60) ∧ (0 ≤ s ∧ s < 60) := by
  simp only [secOk, Bool.and_eq_true, within_iff, and_assoc]
theorem sec_fin {y m d h mi s : Int} (hok : secOk y m d h mi s = true) :
    (-9223372036854775808 ≤ dayAns y m d * 86400 ∧ dayAns y m d * 86400 ≤ 9223372036854775807) ∧ (-9223372036854775808 ≤ h * 3600 ∧ h * 3600 ≤ 9223372036854775807) ∧
    (-9223372036854775808 ≤ dayAns y m d * 86400 + h * 3600 ∧ dayAns y m d * 86400 + h * 3600 ≤ 9223372036854775807) ∧ (-9223372036854775808 ≤ mi * 60 ∧ mi * 60 ≤ 9223372036854775807) ∧
    (-9223372036854775808 ≤ dayAns y m d * 86400 + h * 3600 + mi * 60 ∧ dayAns y m d * 86400 + h * 3600 + mi * 60 ≤ 9223372036854775807) ∧
    (-9223372036854775808 ≤ dayAns y m d * 86400 + h * 3600 + mi * 60 + s ∧ dayAns y m d * 86400 + h * 3600 + mi * 60 + s ≤ 9223372036854775807) ∧
    dayAns y m d * 86400 + h * 3600 + mi * 60 + s = secNo y m d h mi s ∧ true = secOk y m d h mi s := by
  obtain ⟨hr, hh, hm, hs⟩ := secOk_iff.1 hok
  have b1 := dayNo_bounds hr
  simp only [secNo, hok, if_true, dayAns, hr]
  and_intros <;> first | omega | trivial

def T_specSeconds : Tbl := fun g E args => T7 g E args
theorem T_specSeconds_ok : TblOK Try.prog T_specSeconds := T7_ok
set_option maxRecDepth 100000 in
set_option maxHeartbeats 4000000 in
theorem specSeconds (y m d h mi s : Int) : SpecE Try.prog 29 [] [.agg [.int .i64 y, .int .i64 m, .int .i64 d, .int .i64 h, .int .i64 mi, .int .i64 s]] [] (.tuple [.int .i64 (secNo y m d h mi s), .bool (secOk y m d h mi s)]) := by
  refine specF0 (C := T_specSeconds) (wr := false) (D := fun _ => []) (U := fun _ => none) (res := [.int .i64 (secNo y m d h mi s), .bool (secOk y m d h mi s)]) Try.Ty.mixed T_specSeconds_ok Try.func29 (nA := 1) (by decide +kernel) rfl (fun _ => rfl) ?_
  simp only [Try.f29, bodyOf, rlOf]
  rw [W_V]
  simp (config := {maxSteps := 2000000}) only [T_specSeconds, V_skip, V_label, V_regF, V_regT, V_seq, V_cond, V_block, V_loop, V_exit, V_ret, kseq_normal, kseq_exit, kseq_ret, kblk_normal, kblk_exit, kblk_ret, kinv_normal, kinv_exit, kinv_ret, VO_nil, VO_cons, VD_nil, VD_cons, VP_none, VPQ_none, VP_some, VPQ_some, WeakE, noAnyT, subTE, subBE, blkE, extsOK, stepP_some, stepQ_some, grdP_nil, grdP_cons, grdP_none, grdQ_nil, grdQ_none, cndP_bool, serP_true, serP_false, wrapP_some, wrapE_some, wrapP_none, wrapE_none, orR_some, orR_none, es_move, es_assign, es_pick, es_binOp, es_unOp, es_index, es_field, es_fieldAddr, es_extract, es_build, es_nilCheck, es_makeFunc, es_max, es_min, es_load, es_indexAddr, es_slice, es_convert, es_len, es_alloc, es_box, es_buildSlice, es_makeSlice, es_store, es_range, es_next, es_append, es_call, guardE, evPure, evRead, evEff, evCall, evCallP, evPick, evNilCheck, evBuiltin, evBin, evUn, evConv, evExtract, evIndex, evField, evFieldAddr, evIndexAddr, evSlice, evLen, evMax, evMin, evBuild, boundA, unO, idOf, rdLen, rdIndexAddr, rdSlice, rdLoad, rdText, efStore, arrT, efBoxed, boxC, efBuildSlice, efMake, efBytes, elemsA, efRange, efNext, srcA, srcT, efAppend, purA, purL, AV.un, AV.uc, ucL, opnds, arithV, arithP, St.ev, St.get, St.lk, St.put, St.upd, lkA, lkB, AV.ofVal, St.init, argT, extB, scal, ren, renL, renB, sig, newBlks, marks, freshIds, deadId, addT, nilT, setAt, fillA, placesL, AV.cells, FinR, FinS, noAny, subP, resR, slotE, inR, isBoolT, AV.flat, AV.shaped, AV.one, one1, oneT, c0, c1, c2, c3, idsOK, idsOKL, evCall1, evCallH, pids, pidsL, mids, midsL, hasId, allIds, blkIds, reach, idxOf, sigH, handE, hpL, keptOK, sameBlks, apartIds, noDup, orT_some, orT_none, FinE, FinEv, sigX, okX, argOK, enc_u8, dec_u8, enc_strs, dec_strs, enc_ints, dec_ints, enc_bytes, dec_bytes, toStr, toInt, listOf, map_str_toStr, map_int_toInt, map_byte_toByte, dec_u8_byte, pidsL_append, pidsL_map, ren_map, call1a, call1b, call1c, reachI, handE1, hpArg, hpJoin, kept1, callHa, callHb, callHi, orH_some, orH_none, evBinX, evBinS, evEqB, evEqO, evEqOp, otherA, evEq, evEqS, evEqF, fldA, eqInt, eqBool, eqStr, eqPtr, eqSl, eqFn, seqU_none, seqU_some, fstR, kcut_normal, kcut_exit, kcut_ret, List.map_cons, List.map_nil, List.map_toArray, List.toList_toArray, List.cons_append, List.nil_append, List.append_nil, List.append_assoc, Option.toList_some, Option.toList_none, List.getElem?_cons_zero, List.getElem?_cons_succ, List.getElem?_toArray, List.size_toArray, List.length_cons, List.length_nil, Option.getD_some, Option.getD_none, reduceIte, Nat.reduceEqDiff, Nat.reduceAdd, Nat.reduceMul, Nat.reduceSub, Nat.reduceBEq, Nat.reduceLT, Nat.reduceLeDiff, true_and, and_true, implies_true, forall_const, if_true, if_false, ite_true, ite_false, Bool.true_and, Bool.and_true, Bool.false_and, Bool.and_false, beq_self_eq_true, beq_true, beq_false, imp_self, false_implies, and_self,  Bool.true_beq, Bool.false_beq, reduceCtorEq, Int.reduceNeg, ne_eq, not_false_eq_true, Int.reduceEq, String.reduceEq, Int.reduceLT, Int.reduceLE, Int.reduceToNat, Int.reduceAdd, Int.reduceMul, Int.reduceSub, Function.comp, eq_self, cond_true, cond_false, Bool.not_true, Bool.not_false, Bool.true_eq_false, Bool.false_eq_true, Bool.and_eq_true, Bool.not_eq_true', Bool.not_not, and_imp, List.take_succ_cons, List.take_zero, List.drop_succ_cons, List.drop_zero, List.mem_cons, List.not_mem_nil, forall_eq_or_imp, or_false, forall_eq, false_or, List.all_cons, List.all_nil, List.replicate_succ, List.replicate_zero, List.mem_nil_iff, Option.map_some, Option.map_none, List.flatMap_cons, List.flatMap_nil, Bool.true_or, Bool.or_true, Bool.false_or, Bool.or_false, List.set_cons_zero, List.set_cons_succ, List.getD_cons_zero, List.getD_cons_succ, Bool.cond_true_left, Bool.cond_false_right, Bool.or_eq_true, Bool.or_eq_false_iff, decide_eq_true_eq, decide_eq_false_iff_not, Int.not_lt, Int.not_le, Try.underlying2, Try.Ty.s2, Try.Ty.b2, Try.Ty.a2, Try.Ty.z2, Try.underlying3, Try.Ty.s3, Try.Ty.b3, Try.Ty.a3, Try.Ty.z3, Try.underlying4, Try.Ty.s4, Try.Ty.b4, Try.Ty.a4, Try.Ty.z4, Try.underlying5, Try.Ty.s5, Try.Ty.b5, Try.Ty.a5, Try.Ty.z5, Try.underlying6, Try.Ty.s6, Try.Ty.b6, Try.Ty.a6, Try.Ty.z6, Try.underlying9, Try.Ty.s9, Try.Ty.b9, Try.Ty.a9, Try.Ty.z9, Try.underlying12, Try.Ty.s12, Try.Ty.b12, Try.Ty.a12, Try.Ty.z12, Try.underlying13, Try.Ty.s13, Try.Ty.b13, Try.Ty.a13, Try.Ty.z13, Try.underlying16, Try.Ty.s16, Try.Ty.b16, Try.Ty.a16, Try.Ty.z16, Try.underlying17, Try.Ty.s17, Try.Ty.b17, Try.Ty.a17, Try.Ty.z17, Try.underlying39, Try.Ty.s39, Try.Ty.b39, Try.Ty.a39, Try.Ty.g39, Try.Ty.h39, Try.Ty.z39, Try.underlying87, Try.Ty.s87, Try.Ty.b87, Try.Ty.a87, Try.Ty.z87, Try.underlying89, Try.Ty.s89, Try.Ty.b89, Try.Ty.a89, Try.Ty.z89, Try.underlying91, Try.Ty.s91, Try.Ty.b91, Try.Ty.a91, Try.Ty.z91, Try.underlying92, Try.Ty.s92, Try.Ty.b92, Try.Ty.a92, Try.Ty.z92, Try.underlying93, Try.Ty.s93, Try.Ty.b93, Try.Ty.a93, Try.Ty.z93, Try.underlying94, Try.Ty.s94, Try.Ty.b94, Try.Ty.a94, Try.Ty.z94, Try.underlying96, Try.Ty.s96, Try.Ty.b96, Try.Ty.a96, Try.Ty.z96, Try.underlying97, Try.Ty.s97, Try.Ty.b97, Try.Ty.a97, Try.Ty.z97, Try.underlying98, Try.Ty.s98, Try.Ty.b98, Try.Ty.a98, Try.Ty.z98, Try.underlying100, Try.Ty.s100, Try.Ty.b100, Try.Ty.a100, Try.Ty.z100, T7, T6, T5, T4, T3, T2, T1]
  simp only [Bool.not_eq_false']
  refine ⟨fun h => h, fun e => ?_, fun hr hh hm hs => ?_⟩
  · have hok : secOk y m d h mi s = false := by
      unfold secOk
      rcases e with ((e | e) | e) | e <;> simp [e]
    simp [secNo, hok]
  · have hok : secOk y m d h mi s = true := by simp [secOk, hr, hh, hm, hs]
    exact sec_fin hok
def tb_specSeconds : List Blk → List AV → Option (List Blk × AV × Prop)
  | [], [.agg [.int .i64 y, .int .i64 m, .int .i64 d, .int .i64 h, .int .i64 mi, .int .i64 s]] => some ([], .tuple [.int .i64 (secNo y m d h mi s), .bool (secOk y m d h mi s)], True)
  | _, _ => none
theorem tb_specSeconds_ok : ∀ E args E' res p, tb_specSeconds E args = some (E', res, p) → p → SpecE Try.prog 29 E args E' res := by
  intro E args E' res p h hp
  unfold tb_specSeconds at h
  split at h
  · simp only [Option.some.injEq, Prod.mk.injEq] at h
    obtain ⟨rfl, rfl, rfl⟩ := h
    exact (specSeconds _ _ _ _ _ _)
  · cases h

def T_specSecondsR : Tbl := fun g E args => T7 g E args
theorem T_specSecondsR_ok : TblOK Try.prog T_specSecondsR := T7_ok
set_option maxRecDepth 100000 in
set_option maxHeartbeats 4000000 in
theorem specSecondsR (y m d h mi s : Int) : SpecE Try.prog 30 [] [.agg [.int .i64 y, .int .i64 m, .int .i64 d, .int .i64 h, .int .i64 mi, .int .i64 s]] [] (.tuple [.int .i64 (secNo y m d h mi s), .bool (secOk y m d h mi s)]) := by
  refine specF0 (C := T_specSecondsR) (wr := false) (D := fun _ => []) (U := fun _ => none) (res := [.int .i64 (secNo y m d h mi s), .bool (secOk y m d h mi s)]) Try.Ty.mixed T_specSecondsR_ok Try.func30 (nA := 1) (by decide +kernel) rfl (fun _ => rfl) ?_
  simp only [Try.f30, bodyOf, rlOf]
  rw [W_V]
  simp (config := {maxSteps := 2000000}) only [T_specSecondsR, V_skip, V_label, V_regF, V_regT, V_seq, V_cond, V_block, V_loop, V_exit, V_ret, kseq_normal, kseq_exit, kseq_ret, kblk_normal, kblk_exit, kblk_ret, kinv_normal, kinv_exit, kinv_ret, VO_nil, VO_cons, VD_nil, VD_cons, VP_none, VPQ_none, VP_some, VPQ_some, WeakE, noAnyT, subTE, subBE, blkE, extsOK, stepP_some, stepQ_some, grdP_nil, grdP_cons, grdP_none, grdQ_nil, grdQ_none, cndP_bool, serP_true, serP_false, wrapP_some, wrapE_some, wrapP_none, wrapE_none, orR_some, orR_none, es_move, es_assign, es_pick, es_binOp, es_unOp, es_index, es_field, es_fieldAddr, es_extract, es_build, es_nilCheck, es_makeFunc, es_max, es_min, es_load, es_indexAddr, es_slice, es_convert, es_len, es_alloc, es_box, es_buildSlice, es_makeSlice, es_store, es_range, es_next, es_append, es_call, guardE, evPure, evRead, evEff, evCall, evCallP, evPick, evNilCheck, evBuiltin, evBin, evUn, evConv, evExtract, evIndex, evField, evFieldAddr, evIndexAddr, evSlice, evLen, evMax, evMin, evBuild, boundA, unO, idOf, rdLen, rdIndexAddr, rdSlice, rdLoad, rdText, efStore, arrT, efBoxed, boxC, efBuildSlice, efMake, efBytes, elemsA, efRange, efNext, srcA, srcT, efAppend, purA, purL, AV.un, AV.uc, ucL, opnds, arithV, arithP, St.ev, St.get, St.lk, St.put, St.upd, lkA, lkB, AV.ofVal, St.init, argT, extB, scal, ren, renL, renB, sig, newBlks, marks, freshIds, deadId, addT, nilT, setAt, fillA, placesL, AV.cells, FinR, FinS, noAny, subP, resR, slotE, inR, isBoolT, AV.flat, AV.shaped, AV.one, one1, oneT, c0, c1, c2, c3, idsOK, idsOKL, evCall1, evCallH, pids, pidsL, mids, midsL, hasId, allIds, blkIds, reach, idxOf, sigH, handE, hpL, keptOK, sameBlks, apartIds, noDup, orT_some, orT_none, FinE, FinEv, sigX, okX, argOK, enc_u8, dec_u8, enc_strs, dec_strs, enc_ints, dec_ints, enc_bytes, dec_bytes, toStr, toInt, listOf, map_str_toStr, map_int_toInt, map_byte_toByte, dec_u8_byte, pidsL_append, pidsL_map, ren_map, call1a, call1b, call1c, reachI, handE1, hpArg, hpJoin, kept1, callHa, callHb, callHi, orH_some, orH_none, evBinX, evBinS, evEqB, evEqO, evEqOp, otherA, evEq, evEqS, evEqF, fldA, eqInt, eqBool, eqStr, eqPtr, eqSl, eqFn, seqU_none, seqU_some, fstR, kcut_normal, kcut_exit, kcut_ret, List.map_cons, List.map_nil, List.map_toArray, List.toList_toArray, List.cons_append, List.nil_append, List.append_nil, List.append_assoc, Option.toList_some, Option.toList_none, List.getElem?_cons_zero, List.getElem?_cons_succ, List.getElem?_toArray, List.size_toArray, List.length_cons, List.length_nil, Option.getD_some, Option.getD_none, reduceIte, Nat.reduceEqDiff, Nat.reduceAdd, Nat.reduceMul, Nat.reduceSub, Nat.reduceBEq, Nat.reduceLT, Nat.reduceLeDiff, true_and, and_true, implies_true, forall_const, if_true, if_false, ite_true, ite_false, Bool.true_and, Bool.and_true, Bool.false_and, Bool.and_false, beq_self_eq_true, beq_true, beq_false, imp_self, false_implies, and_self,  Bool.true_beq, Bool.false_beq, reduceCtorEq, Int.reduceNeg, ne_eq, not_false_eq_true, Int.reduceEq, String.reduceEq, Int.reduceLT, Int.reduceLE, Int.reduceToNat, Int.reduceAdd, Int.reduceMul, Int.reduceSub, Function.comp, eq_self, cond_true, cond_false, Bool.not_true, Bool.not_false, Bool.true_eq_false, Bool.false_eq_true, Bool.and_eq_true, Bool.not_eq_true', Bool.not_not, and_imp, List.take_succ_cons, List.take_zero, List.drop_succ_cons, List.drop_zero, List.mem_cons, List.not_mem_nil, forall_eq_or_imp, or_false, forall_eq, false_or, List.all_cons, List.all_nil, List.replicate_succ, List.replicate_zero, List.mem_nil_iff, Option.map_some, Option.map_none, List.flatMap_cons, List.flatMap_nil, Bool.true_or, Bool.or_true, Bool.false_or, Bool.or_false, List.set_cons_zero, List.set_cons_succ, List.getD_cons_zero, List.getD_cons_succ, Bool.cond_true_left, Bool.cond_false_right, Bool.or_eq_true, Bool.or_eq_false_iff, decide_eq_true_eq, decide_eq_false_iff_not, Int.not_lt, Int.not_le, Try.underlying2, Try.Ty.s2, Try.Ty.b2, Try.Ty.a2, Try.Ty.z2, Try.underlying3, Try.Ty.s3, Try.Ty.b3, Try.Ty.a3, Try.Ty.z3, Try.underlying4, Try.Ty.s4, Try.Ty.b4, Try.Ty.a4, Try.Ty.z4, Try.underlying5, Try.Ty.s5, Try.Ty.b5, Try.Ty.a5, Try.Ty.z5, Try.underlying9, Try.Ty.s9, Try.Ty.b9, Try.Ty.a9, Try.Ty.z9, Try.underlying12, Try.Ty.s12, Try.Ty.b12, Try.Ty.a12, Try.Ty.z12, Try.underlying14, Try.Ty.s14, Try.Ty.b14, Try.Ty.a14, Try.Ty.z14, Try.underlying16, Try.Ty.s16, Try.Ty.b16, Try.Ty.a16, Try.Ty.z16, Try.underlying39, Try.Ty.s39, Try.Ty.b39, Try.Ty.a39, Try.Ty.g39, Try.Ty.h39, Try.Ty.z39, Try.underlying89, Try.Ty.s89, Try.Ty.b89, Try.Ty.a89, Try.Ty.z89, Try.underlying91, Try.Ty.s91, Try.Ty.b91, Try.Ty.a91, Try.Ty.z91, Try.underlying94, Try.Ty.s94, Try.Ty.b94, Try.Ty.a94, Try.Ty.z94, T7, T6, T5, T4, T3, T2, T1]
  simp only [Bool.not_eq_false']
  refine ⟨fun h => h, fun e => ?_, fun hr h1 h2 h3 h4 h5 h6 => ?_⟩
  · have hok : secOk y m d h mi s = false := by
      rw [← Bool.not_eq_true, secOk_iff]
      intro hk
      rcases e with (((((e | e) | e) | e) | e) | e) | e
      · rw [e] at hk; exact absurd hk.1 (by simp)
      all_goals omega
    simp [secNo, hok]
  · exact sec_fin (secOk_iff.2 ⟨hr, by omega, by omega, by omega⟩)
def tb_specSecondsR : List Blk → List AV → Option (List Blk × AV × Prop)
  | [], [.agg [.int .i64 y, .int .i64 m, .int .i64 d, .int .i64 h, .int .i64 mi, .int .i64 s]] => some ([], .tuple [.int .i64 (secNo y m d h mi s), .bool (secOk y m d h mi s)], True)
  | _, _ => none
theorem tb_specSecondsR_ok : ∀ E args E' res p, tb_specSecondsR E args = some (E', res, p) → p → SpecE Try.prog 30 E args E' res := by
  intro E args E' res p h hp
  unfold tb_specSecondsR at h
  split at h
  · simp only [Option.some.injEq, Prod.mk.injEq] at h
    obtain ⟨rfl, rfl, rfl⟩ := h
    exact (specSecondsR _ _ _ _ _ _)
  · cases h

/-! dates -/
def dQ (t : Int) : Int := t / 86400
def dR (t : Int) : Int := t % 86400
def dIn (t v : Int) : Int := if inDays (dQ t) = true then v else 0
theorem tdiv_cases (a b : Int) (hb : 0 < b) : (0 ≤ a ∧ a.tdiv b = a / b ∧ a.tmod b = a % b) ∨ (a < 0 ∧ a.tdiv b = -((-a) / b) ∧ a.tmod b = -((-a) % b)) := by
  rcases Int.lt_or_le a 0 with h | h
  · refine .inr ⟨h, ?_, ?_⟩
    · rw [show a = -(-a) by omega, Int.neg_tdiv, quo_nn _ (by omega), Int.neg_neg]
    · rw [show a = -(-a) by omega, Int.neg_tmod, rem_nn _ (by omega), Int.neg_neg]
  · exact .inl ⟨h, quo_nn _ h, rem_nn _ h⟩
theorem date_pos {t : Int} (h : 0 ≤ t.tmod 86400) : t.tdiv 86400 = dQ t ∧ t.tmod 86400 = dR t := by
  unfold dQ dR
  rcases tdiv_cases t 86400 (by omega) with ⟨h1, h2, h3⟩ | ⟨h1, h2, h3⟩ <;> rw [h3] at h <;> rw [h2, h3] <;> omega
theorem date_neg {t : Int} (h : t.tmod 86400 < 0) : t.tdiv 86400 - 1 = dQ t ∧ t.tmod 86400 + 86400 = dR t ∧ t < 0 := by
  unfold dQ dR
  rcases tdiv_cases t 86400 (by omega) with ⟨h1, h2, h3⟩ | ⟨h1, h2, h3⟩ <;> rw [h3] at h <;> rw [h2, h3] <;> omega
theorem dR_bounds (t : Int) : 0 ≤ dR t ∧ dR t < 86400 := by unfold dR; omega
theorem dQ_bounds {t : Int} (h : -9223372036854775808 ≤ t ∧ t ≤ 9223372036854775807) : -106751991167302 ≤ dQ t ∧ dQ t ≤ 106751991167302 := by unfold dQ; omega
theorem day_parts {r : Int} (h : 0 ≤ r ∧ r < 86400) : r.tdiv 3600 = r / 3600 ∧ r.tdiv 60 = r / 60 ∧ (r / 60).tmod 60 = r / 60 % 60 ∧ r.tmod 60 = r % 60 ∧ r.tmod 3600 = r % 3600 ∧ (r % 3600).tdiv 60 = r / 60 % 60 :=
  ⟨quo_nn _ h.1, quo_nn _ h.1, rem_nn _ (by omega), rem_nn _ h.1, rem_nn _ h.1, by rw [quo_nn _ (by omega)]; omega⟩

def T_specDate : Tbl := fun g E args => T7 g E args
theorem T_specDate_ok : TblOK Try.prog T_specDate := T7_ok
set_option maxRecDepth 100000 in
set_option maxHeartbeats 4000000 in
theorem specDate (t : Int) (ht : inR .i64 t) : SpecE Try.prog 31 [] [.int .i64 t] [] (.tuple [dateAV (aY (dQ t)) (aM (dQ t)) (aD (dQ t)) (dIn t (dR t / 3600)) (dIn t (dR t / 60 % 60)) (dIn t (dR t % 60)), .bool (inDays (dQ t))]) := by
  refine specF0 (C := T_specDate) (wr := false) (D := fun _ => []) (U := fun _ => none) (res := [dateAV (aY (dQ t)) (aM (dQ t)) (aD (dQ t)) (dIn t (dR t / 3600)) (dIn t (dR t / 60 % 60)) (dIn t (dR t % 60)), .bool (inDays (dQ t))]) Try.Ty.mixed T_specDate_ok Try.func31 (nA := 1) (by decide +kernel) rfl (fun _ => rfl) ?_
  simp only [Try.f31, bodyOf, rlOf]
  rw [W_V]
  simp (config := {maxSteps := 2000000}) only [T_specDate, V_skip, V_label, V_regF, V_regT, V_seq, V_cond, V_block, V_loop, V_exit, V_ret, kseq_normal, kseq_exit, kseq_ret, kblk_normal, kblk_exit, kblk_ret, kinv_normal, kinv_exit, kinv_ret, VO_nil, VO_cons, VD_nil, VD_cons, VP_none, VPQ_none, VP_some, VPQ_some, WeakE, noAnyT, subTE, subBE, blkE, extsOK, stepP_some, stepQ_some, grdP_nil, grdP_cons, grdP_none, grdQ_nil, grdQ_none, cndP_bool, serP_true, serP_false, wrapP_some, wrapE_some, wrapP_none, wrapE_none, orR_some, orR_none, es_move, es_assign, es_pick, es_binOp, es_unOp, es_index, es_field, es_fieldAddr, es_extract, es_build, es_nilCheck, es_makeFunc, es_max, es_min, es_load, es_indexAddr, es_slice, es_convert, es_len, es_alloc, es_box, es_buildSlice, es_makeSlice, es_store, es_range, es_next, es_append, es_call, guardE, evPure, evRead, evEff, evCall, evCallP, evPick, evNilCheck, evBuiltin, evBin, evUn, evConv, evExtract, evIndex, evField, evFieldAddr, evIndexAddr, evSlice, evLen, evMax, evMin, evBuild, boundA, unO, idOf, rdLen, rdIndexAddr, rdSlice, rdLoad, rdText, efStore, arrT, efBoxed, boxC, efBuildSlice, efMake, efBytes, elemsA, efRange, efNext, srcA, srcT, efAppend, purA, purL, AV.un, AV.uc, ucL, opnds, arithV, arithP, St.ev, St.get, St.lk, St.put, St.upd, lkA, lkB, AV.ofVal, St.init, argT, extB, scal, ren, renL, renB, sig, newBlks, marks, freshIds, deadId, addT, nilT, setAt, fillA, placesL, AV.cells, FinR, FinS, noAny, subP, resR, slotE, inR, isBoolT, AV.flat, AV.shaped, AV.one, one1, oneT, c0, c1, c2, c3, idsOK, idsOKL, evCall1, evCallH, pids, pidsL, mids, midsL, hasId, allIds, blkIds, reach, idxOf, sigH, handE, hpL, keptOK, sameBlks, apartIds, noDup, orT_some, orT_none, FinE, FinEv, sigX, okX, argOK, enc_u8, dec_u8, enc_strs, dec_strs, enc_ints, dec_ints, enc_bytes, dec_bytes, toStr, toInt, listOf, map_str_toStr, map_int_toInt, map_byte_toByte, dec_u8_byte, pidsL_append, pidsL_map, ren_map, call1a, call1b, call1c, reachI, handE1, hpArg, hpJoin, kept1, callHa, callHb, callHi, orH_some, orH_none, evBinX, evBinS, evEqB, evEqO, evEqOp, otherA, evEq, evEqS, evEqF, fldA, eqInt, eqBool, eqStr, eqPtr, eqSl, eqFn, seqU_none, seqU_some, fstR, kcut_normal, kcut_exit, kcut_ret, List.map_cons, List.map_nil, List.map_toArray, List.toList_toArray, List.cons_append, List.nil_append, List.append_nil, List.append_assoc, Option.toList_some, Option.toList_none, List.getElem?_cons_zero, List.getElem?_cons_succ, List.getElem?_toArray, List.size_toArray, List.length_cons, List.length_nil, Option.getD_some, Option.getD_none, reduceIte, Nat.reduceEqDiff, Nat.reduceAdd, Nat.reduceMul, Nat.reduceSub, Nat.reduceBEq, Nat.reduceLT, Nat.reduceLeDiff, true_and, and_true, implies_true, forall_const, if_true, if_false, ite_true, ite_false, Bool.true_and, Bool.and_true, Bool.false_and, Bool.and_false, beq_self_eq_true, beq_true, beq_false, imp_self, false_implies, and_self,  Bool.true_beq, Bool.false_beq, reduceCtorEq, Int.reduceNeg, ne_eq, not_false_eq_true, Int.reduceEq, String.reduceEq, Int.reduceLT, Int.reduceLE, Int.reduceToNat, Int.reduceAdd, Int.reduceMul, Int.reduceSub, Function.comp, eq_self, cond_true, cond_false, Bool.not_true, Bool.not_false, Bool.true_eq_false, Bool.false_eq_true, Bool.and_eq_true, Bool.not_eq_true', Bool.not_not, and_imp, List.take_succ_cons, List.take_zero, List.drop_succ_cons, List.drop_zero, List.mem_cons, List.not_mem_nil, forall_eq_or_imp, or_false, forall_eq, false_or, List.all_cons, List.all_nil, List.replicate_succ, List.replicate_zero, List.mem_nil_iff, Option.map_some, Option.map_none, List.flatMap_cons, List.flatMap_nil, Bool.true_or, Bool.or_true, Bool.false_or, Bool.or_false, List.set_cons_zero, List.set_cons_succ, List.getD_cons_zero, List.getD_cons_succ, Bool.cond_true_left, Bool.cond_false_right, Bool.or_eq_true, Bool.or_eq_false_iff, decide_eq_true_eq, decide_eq_false_iff_not, Int.not_lt, Int.not_le, Try.underlying2, Try.Ty.s2, Try.Ty.b2, Try.Ty.a2, Try.Ty.z2, Try.underlying3, Try.Ty.s3, Try.Ty.b3, Try.Ty.a3, Try.Ty.z3, Try.underlying4, Try.Ty.s4, Try.Ty.b4, Try.Ty.a4, Try.Ty.z4, Try.underlying5, Try.Ty.s5, Try.Ty.b5, Try.Ty.a5, Try.Ty.z5, Try.underlying6, Try.Ty.s6, Try.Ty.b6, Try.Ty.a6, Try.Ty.z6, Try.underlying7, Try.Ty.s7, Try.Ty.b7, Try.Ty.a7, Try.Ty.g7, Try.Ty.h7, Try.Ty.z7, Try.underlying8, Try.Ty.s8, Try.Ty.b8, Try.Ty.a8, Try.Ty.g8, Try.Ty.h8, Try.Ty.z8, Try.underlying9, Try.Ty.s9, Try.Ty.b9, Try.Ty.a9, Try.Ty.z9, Try.underlying39, Try.Ty.s39, Try.Ty.b39, Try.Ty.a39, Try.Ty.g39, Try.Ty.h39, Try.Ty.z39, T7, T6, T5, T4, T3, T2, T1]
  simp only [inR] at ht
  have hb := dR_bounds t
  have hd := dQ_bounds ht
  obtain ⟨p1, p2, p3, p4, p5, p6⟩ := day_parts hb
  have fin : ∀ (b : Bool), inDays (dQ t) = b → b = false → AV.agg [AV.int IntKind.i64 0, AV.int IntKind.i64 0, AV.int IntKind.i64 0, AV.int IntKind.i64 0, AV.int IntKind.i64 0, AV.int IntKind.i64 0] =
      dateAV (aY (dQ t)) (aM (dQ t)) (aD (dQ t)) (dIn t (dR t / 3600)) (dIn t (dR t / 60 % 60)) (dIn t (dR t % 60)) := by
    rintro b h rfl
    simp [aY, aM, aD, dIn, h]
  refine ⟨?_, fun hneg => ?_, fun hpos => ?_⟩
  · rcases Int.lt_or_le (t.tmod 86400) 0 with h | h
    · have := date_neg h; omega
    · have := date_pos h; omega
  · obtain ⟨e1, e2, _⟩ := date_neg hneg
    rw [e1, e2, p1, p2, p3, p4]
    refine ⟨by omega, by omega, fun hf => ⟨fin _ rfl hf, hf.symm⟩, fun hf => ?_⟩
    have : inDays (dQ t) = true := by simpa using hf
    refine ⟨by omega, by omega, ?_, this.symm⟩
    simp [dIn, this]
  · obtain ⟨e1, e2⟩ := date_pos hpos
    rw [e1, e2, p1, p2, p3, p4]
    refine ⟨fun hf => ⟨fin _ rfl hf, hf.symm⟩, fun hf => ?_⟩
    have : inDays (dQ t) = true := by simpa using hf
    refine ⟨by omega, by omega, ?_, this.symm⟩
    simp [dIn, this]
def tb_specDate : List Blk → List AV → Option (List Blk × AV × Prop)
  | [], [.int .i64 t] => some ([], .tuple [dateAV (aY (dQ t)) (aM (dQ t)) (aD (dQ t)) (dIn t (dR t / 3600)) (dIn t (dR t / 60 % 60)) (dIn t (dR t % 60)), .bool (inDays (dQ t))], (inR .i64 t))
  | _, _ => none
theorem tb_specDate_ok : ∀ E args E' res p, tb_specDate E args = some (E', res, p) → p → SpecE Try.prog 31 E args E' res := by
  intro E args E' res p h hp
  unfold tb_specDate at h
  split at h
  · simp only [Option.some.injEq, Prod.mk.injEq] at h
    obtain ⟨rfl, rfl, rfl⟩ := h
    exact (specDate _ hp)
  · cases h

def T_specDateR : Tbl := fun g E args => T7 g E args
theorem T_specDateR_ok : TblOK Try.prog T_specDateR := T7_ok
set_option maxRecDepth 100000 in
set_option maxHeartbeats 4000000 in
theorem specDateR (t : Int) (ht : inR .i64 t) : SpecE Try.prog 32 [] [.int .i64 t] [] (.tuple [dateAV (aY (dQ t)) (aM (dQ t)) (aD (dQ t)) (dIn t (dR t / 3600)) (dIn t (dR t / 60 % 60)) (dIn t (dR t % 60)), .bool (inDays (dQ t))]) := by
  refine specF0 (C := T_specDateR) (wr := false) (D := fun _ => []) (U := fun _ => none) (res := [dateAV (aY (dQ t)) (aM (dQ t)) (aD (dQ t)) (dIn t (dR t / 3600)) (dIn t (dR t / 60 % 60)) (dIn t (dR t % 60)), .bool (inDays (dQ t))]) Try.Ty.mixed T_specDateR_ok Try.func32 (nA := 1) (by decide +kernel) rfl (fun _ => rfl) ?_
  simp only [Try.f32, bodyOf, rlOf]
  rw [W_V]
  simp (config := {maxSteps := 2000000}) only [T_specDateR, V_skip, V_label, V_regF, V_regT, V_seq, V_cond, V_block, V_loop, V_exit, V_ret, kseq_normal, kseq_exit, kseq_ret, kblk_normal, kblk_exit, kblk_ret, kinv_normal, kinv_exit, kinv_ret, VO_nil, VO_cons, VD_nil, VD_cons, VP_none, VPQ_none, VP_some, VPQ_some, WeakE, noAnyT, subTE, subBE, blkE, extsOK, stepP_some, stepQ_some, grdP_nil, grdP_cons, grdP_none, grdQ_nil, grdQ_none, cndP_bool, serP_true, serP_false, wrapP_some, wrapE_some, wrapP_none, wrapE_none, orR_some, orR_none, es_move, es_assign, es_pick, es_binOp, es_unOp, es_index, es_field, es_fieldAddr, es_extract, es_build, es_nilCheck, es_makeFunc, es_max, es_min, es_load, es_indexAddr, es_slice, es_convert, es_len, es_alloc, es_box, es_buildSlice, es_makeSlice, es_store, es_range, es_next, es_append, es_call, guardE, evPure, evRead, evEff, evCall, evCallP, evPick, evNilCheck, evBuiltin, evBin, evUn, evConv, evExtract, evIndex, evField, evFieldAddr, evIndexAddr, evSlice, evLen, evMax, evMin, evBuild, boundA, unO, idOf, rdLen, rdIndexAddr, rdSlice, rdLoad, rdText, efStore, arrT, efBoxed, boxC, efBuildSlice, efMake, efBytes, elemsA, efRange, efNext, srcA, srcT, efAppend, purA, purL, AV.un, AV.uc, ucL, opnds, arithV, arithP, St.ev, St.get, St.lk, St.put, St.upd, lkA, lkB, AV.ofVal, St.init, argT, extB, scal, ren, renL, renB, sig, newBlks, marks, freshIds, deadId, addT, nilT, setAt, fillA, placesL, AV.cells, FinR, FinS, noAny, subP, resR, slotE, inR, isBoolT, AV.flat, AV.shaped, AV.one, one1, oneT, c0, c1, c2, c3, idsOK, idsOKL, evCall1, evCallH, pids, pidsL, mids, midsL, hasId, allIds, blkIds, reach, idxOf, sigH, handE, hpL, keptOK, sameBlks, apartIds, noDup, orT_some, orT_none, FinE, FinEv, sigX, okX, argOK, enc_u8, dec_u8, enc_strs, dec_strs, enc_ints, dec_ints, enc_bytes, dec_bytes, toStr, toInt, listOf, map_str_toStr, map_int_toInt, map_byte_toByte, dec_u8_byte, pidsL_append, pidsL_map, ren_map, call1a, call1b, call1c, reachI, handE1, hpArg, hpJoin, kept1, callHa, callHb, callHi, orH_some, orH_none, evBinX, evBinS, evEqB, evEqO, evEqOp, otherA, evEq, evEqS, evEqF, fldA, eqInt, eqBool, eqStr, eqPtr, eqSl, eqFn, seqU_none, seqU_some, fstR, kcut_normal, kcut_exit, kcut_ret, List.map_cons, List.map_nil, List.map_toArray, List.toList_toArray, List.cons_append, List.nil_append, List.append_nil, List.append_assoc, Option.toList_some, Option.toList_none, List.getElem?_cons_zero, List.getElem?_cons_succ, List.getElem?_toArray, List.size_toArray, List.length_cons, List.length_nil, Option.getD_some, Option.getD_none, reduceIte, Nat.reduceEqDiff, Nat.reduceAdd, Nat.reduceMul, Nat.reduceSub, Nat.reduceBEq, Nat.reduceLT, Nat.reduceLeDiff, true_and, and_true, implies_true, forall_const, if_true, if_false, ite_true, ite_false, Bool.true_and, Bool.and_true, Bool.false_and, Bool.and_false, beq_self_eq_true, beq_true, beq_false, imp_self, false_implies, and_self,  Bool.true_beq, Bool.false_beq, reduceCtorEq, Int.reduceNeg, ne_eq, not_false_eq_true, Int.reduceEq, String.reduceEq, Int.reduceLT, Int.reduceLE, Int.reduceToNat, Int.reduceAdd, Int.reduceMul, Int.reduceSub, Function.comp, eq_self, cond_true, cond_false, Bool.not_true, Bool.not_false, Bool.true_eq_false, Bool.false_eq_true, Bool.and_eq_true, Bool.not_eq_true', Bool.not_not, and_imp, List.take_succ_cons, List.take_zero, List.drop_succ_cons, List.drop_zero, List.mem_cons, List.not_mem_nil, forall_eq_or_imp, or_false, forall_eq, false_or, List.all_cons, List.all_nil, List.replicate_succ, List.replicate_zero, List.mem_nil_iff, Option.map_some, Option.map_none, List.flatMap_cons, List.flatMap_nil, Bool.true_or, Bool.or_true, Bool.false_or, Bool.or_false, List.set_cons_zero, List.set_cons_succ, List.getD_cons_zero, List.getD_cons_succ, Bool.cond_true_left, Bool.cond_false_right, Bool.or_eq_true, Bool.or_eq_false_iff, decide_eq_true_eq, decide_eq_false_iff_not, Int.not_lt, Int.not_le, Try.underlying2, Try.Ty.s2, Try.Ty.b2, Try.Ty.a2, Try.Ty.z2, Try.underlying3, Try.Ty.s3, Try.Ty.b3, Try.Ty.a3, Try.Ty.z3, Try.underlying4, Try.Ty.s4, Try.Ty.b4, Try.Ty.a4, Try.Ty.z4, Try.underlying5, Try.Ty.s5, Try.Ty.b5, Try.Ty.a5, Try.Ty.z5, Try.underlying6, Try.Ty.s6, Try.Ty.b6, Try.Ty.a6, Try.Ty.z6, Try.underlying7, Try.Ty.s7, Try.Ty.b7, Try.Ty.a7, Try.Ty.g7, Try.Ty.h7, Try.Ty.z7, Try.underlying39, Try.Ty.s39, Try.Ty.b39, Try.Ty.a39, Try.Ty.g39, Try.Ty.h39, Try.Ty.z39, T7, T6, T5, T4, T3, T2, T1]
  simp only [inR] at ht
  have hb := dR_bounds t
  have hd := dQ_bounds ht
  obtain ⟨p1, p2, p3, p4, p5, p6⟩ := day_parts hb
  have out : ∀ {b : Bool}, inDays (dQ t) = b → (b = true → dateAV (aY (dQ t)) (aM (dQ t)) (aD (dQ t)) (dR t / 3600) (dR t / 60 % 60) (dR t % 60) =
      dateAV (aY (dQ t)) (aM (dQ t)) (aD (dQ t)) (dIn t (dR t / 3600)) (dIn t (dR t / 60 % 60)) (dIn t (dR t % 60))) ∧ (b = false → dateAV (aY (dQ t)) (aM (dQ t)) (aD (dQ t)) 0 0 0 =
      dateAV (aY (dQ t)) (aM (dQ t)) (aD (dQ t)) (dIn t (dR t / 3600)) (dIn t (dR t / 60 % 60)) (dIn t (dR t % 60))) := by
    rintro b rfl
    exact ⟨fun h => by simp [dIn, h], fun h => by simp [dIn, h]⟩
  refine ⟨fun hneg => ?_, fun hpos => ?_⟩
  · obtain ⟨e1, e2, e3⟩ := date_neg hneg
    rw [e1, e2, p1, p4, p5, p6]
    refine ⟨by omega, by omega, fun _ _ => ⟨by omega, fun hf => ⟨by omega, by omega, (out rfl).1 hf, rfl⟩, fun hf => ⟨(out rfl).2 hf, rfl⟩⟩, fun hf => ?_⟩
    exfalso
    simp [e3] at hf
    omega
  · obtain ⟨e1, e2⟩ := date_pos hpos
    rw [e1, e2, p1, p4, p5, p6]
    refine ⟨by omega, fun h1 h2 => ?_, fun _ => ⟨fun hf => ⟨by omega, by omega, (out rfl).1 hf, rfl⟩, fun hf => ⟨(out rfl).2 hf, rfl⟩⟩⟩
    exfalso
    rcases tdiv_cases t 86400 (by omega) with ⟨a, b, c⟩ | ⟨a, b, c⟩ <;> omega
def tb_specDateR : List Blk → List AV → Option (List Blk × AV × Prop)
  | [], [.int .i64 t] => some ([], .tuple [dateAV (aY (dQ t)) (aM (dQ t)) (aD (dQ t)) (dIn t (dR t / 3600)) (dIn t (dR t / 60 % 60)) (dIn t (dR t % 60)), .bool (inDays (dQ t))], (inR .i64 t))
  | _, _ => none
theorem tb_specDateR_ok : ∀ E args E' res p, tb_specDateR E args = some (E', res, p) → p → SpecE Try.prog 32 E args E' res := by
  intro E args E' res p h hp
  unfold tb_specDateR at h
  split at h
  · simp only [Option.some.injEq, Prod.mk.injEq] at h
    obtain ⟨rfl, rfl, rfl⟩ := h
    exact (specDateR _ hp)
  · cases h

/-! the law -/
def T_specLawSeconds : Tbl := fun g E args => (addT (addT (addT (addT T7 29 Go.Proofs.Try.Civil.tb_specSeconds) 30 Go.Proofs.Try.Civil.tb_specSecondsR) 31 Go.Proofs.Try.Civil.tb_specDate) 32 Go.Proofs.Try.Civil.tb_specDateR) g E args
theorem T_specLawSeconds_ok : TblOK Try.prog T_specLawSeconds := (addT_ok (addT_ok (addT_ok (addT_ok T7_ok (by decide +kernel) Go.Proofs.Try.Civil.tb_specSeconds_ok) (by decide +kernel) Go.Proofs.Try.Civil.tb_specSecondsR_ok) (by decide +kernel) Go.Proofs.Try.Civil.tb_specDate_ok) (by decide +kernel) Go.Proofs.Try.Civil.tb_specDateR_ok)
set_option maxRecDepth 100000 in
set_option maxHeartbeats 4000000 in
theorem specLawSeconds (y m d h mi s t : Int) (ht : inR .i64 t) : SpecE Try.prog 6 [] [.agg [.int .i64 y, .int .i64 m, .int .i64 d, .int .i64 h, .int .i64 mi, .int .i64 s], .int .i64 t] [] (.bool true) := by
  refine specF0 (C := T_specLawSeconds) (wr := false) (D := fun _ => []) (U := fun _ => none) (res := [.bool true]) Try.Ty.mixed T_specLawSeconds_ok Try.func6 (nA := 2) (by decide +kernel) rfl (fun _ => rfl) ?_
  simp only [Try.f6, bodyOf, rlOf]
  rw [W_V]
  simp (config := {maxSteps := 2000000}) only [T_specLawSeconds, Go.Proofs.Try.Civil.tb_specSeconds, Go.Proofs.Try.Civil.tb_specSecondsR, Go.Proofs.Try.Civil.tb_specDate, Go.Proofs.Try.Civil.tb_specDateR, V_skip, V_label, V_regF, V_regT, V_seq, V_cond, V_block, V_loop, V_exit, V_ret, kseq_normal, kseq_exit, kseq_ret, kblk_normal, kblk_exit, kblk_ret, kinv_normal, kinv_exit, kinv_ret, VO_nil, VO_cons, VD_nil, VD_cons, VP_none, VPQ_none, VP_some, VPQ_some, WeakE, noAnyT, subTE, subBE, blkE, extsOK, stepP_some, stepQ_some, grdP_nil, grdP_cons, grdP_none, grdQ_nil, grdQ_none, cndP_bool, serP_true, serP_false, wrapP_some, wrapE_some, wrapP_none, wrapE_none, orR_some, orR_none, es_move, es_assign, es_pick, es_binOp, es_unOp, es_index, es_field, es_fieldAddr, es_extract, es_build, es_nilCheck, es_makeFunc, es_max, es_min, es_load, es_indexAddr, es_slice, es_convert, es_len, es_alloc, es_box, es_buildSlice, es_makeSlice, es_store, es_range, es_next, es_append, es_call, guardE, evPure, evRead, evEff, evCall, evCallP, evPick, evNilCheck, evBuiltin, evBin, evUn, evConv, evExtract, evIndex, evField, evFieldAddr, evIndexAddr, evSlice, evLen, evMax, evMin, evBuild, boundA, unO, idOf, rdLen, rdIndexAddr, rdSlice, rdLoad, rdText, efStore, arrT, efBoxed, boxC, efBuildSlice, efMake, efBytes, elemsA, efRange, efNext, srcA, srcT, efAppend, purA, purL, AV.un, AV.uc, ucL, opnds, arithV, arithP, St.ev, St.get, St.lk, St.put, St.upd, lkA, lkB, AV.ofVal, St.init, argT, extB, scal, ren, renL, renB, sig, newBlks, marks, freshIds, deadId, addT, nilT, setAt, fillA, placesL, AV.cells, FinR, FinS, noAny, subP, resR, slotE, inR, isBoolT, AV.flat, AV.shaped, AV.one, one1, oneT, c0, c1, c2, c3, idsOK, idsOKL, evCall1, evCallH, pids, pidsL, mids, midsL, hasId, allIds, blkIds, reach, idxOf, sigH, handE, hpL, keptOK, sameBlks, apartIds, noDup, orT_some, orT_none, FinE, FinEv, sigX, okX, argOK, enc_u8, dec_u8, enc_strs, dec_strs, enc_ints, dec_ints, enc_bytes, dec_bytes, toStr, toInt, listOf, map_str_toStr, map_int_toInt, map_byte_toByte, dec_u8_byte, pidsL_append, pidsL_map, ren_map, call1a, call1b, call1c, reachI, handE1, hpArg, hpJoin, kept1, callHa, callHb, callHi, orH_some, orH_none, evBinX, evBinS, evEqB, evEqO, evEqOp, otherA, evEq, evEqS, evEqF, fldA, eqInt, eqBool, eqStr, eqPtr, eqSl, eqFn, seqU_none, seqU_some, fstR, kcut_normal, kcut_exit, kcut_ret, List.map_cons, List.map_nil, List.map_toArray, List.toList_toArray, List.cons_append, List.nil_append, List.append_nil, List.append_assoc, Option.toList_some, Option.toList_none, List.getElem?_cons_zero, List.getElem?_cons_succ, List.getElem?_toArray, List.size_toArray, List.length_cons, List.length_nil, Option.getD_some, Option.getD_none, reduceIte, Nat.reduceEqDiff, Nat.reduceAdd, Nat.reduceMul, Nat.reduceSub, Nat.reduceBEq, Nat.reduceLT, Nat.reduceLeDiff, true_and, and_true, implies_true, forall_const, if_true, if_false, ite_true, ite_false, Bool.true_and, Bool.and_true, Bool.false_and, Bool.and_false, beq_self_eq_true, beq_true, beq_false, imp_self, false_implies, and_self,  Bool.true_beq, Bool.false_beq, reduceCtorEq, Int.reduceNeg, ne_eq, not_false_eq_true, Int.reduceEq, String.reduceEq, Int.reduceLT, Int.reduceLE, Int.reduceToNat, Int.reduceAdd, Int.reduceMul, Int.reduceSub, Function.comp, eq_self, cond_true, cond_false, Bool.not_true, Bool.not_false, Bool.true_eq_false, Bool.false_eq_true, Bool.and_eq_true, Bool.not_eq_true', Bool.not_not, and_imp, List.take_succ_cons, List.take_zero, List.drop_succ_cons, List.drop_zero, List.mem_cons, List.not_mem_nil, forall_eq_or_imp, or_false, forall_eq, false_or, List.all_cons, List.all_nil, List.replicate_succ, List.replicate_zero, List.mem_nil_iff, Option.map_some, Option.map_none, List.flatMap_cons, List.flatMap_nil, Bool.true_or, Bool.or_true, Bool.false_or, Bool.or_false, List.set_cons_zero, List.set_cons_succ, List.getD_cons_zero, List.getD_cons_succ, Bool.cond_true_left, Bool.cond_false_right, Bool.or_eq_true, Bool.or_eq_false_iff, decide_eq_true_eq, decide_eq_false_iff_not, Int.not_lt, Int.not_le, Try.underlying2, Try.Ty.s2, Try.Ty.b2, Try.Ty.a2, Try.Ty.z2, Try.underlying3, Try.Ty.s3, Try.Ty.b3, Try.Ty.a3, Try.Ty.z3, Try.underlying4, Try.Ty.s4, Try.Ty.b4, Try.Ty.a4, Try.Ty.z4, Try.underlying5, Try.Ty.s5, Try.Ty.b5, Try.Ty.a5, Try.Ty.z5, Try.underlying6, Try.Ty.s6, Try.Ty.b6, Try.Ty.a6, Try.Ty.z6, Try.underlying7, Try.Ty.s7, Try.Ty.b7, Try.Ty.a7, Try.Ty.g7, Try.Ty.h7, Try.Ty.z7, Try.underlying8, Try.Ty.s8, Try.Ty.b8, Try.Ty.a8, Try.Ty.g8, Try.Ty.h8, Try.Ty.z8, Try.underlying9, Try.Ty.s9, Try.Ty.b9, Try.Ty.a9, Try.Ty.z9, Try.underlying10, Try.Ty.s10, Try.Ty.b10, Try.Ty.a10, Try.Ty.z10, Try.underlying11, Try.Ty.s11, Try.Ty.b11, Try.Ty.a11, Try.Ty.z11, Try.underlying12, Try.Ty.s12, Try.Ty.b12, Try.Ty.a12, Try.Ty.z12, Try.underlying17, Try.Ty.s17, Try.Ty.b17, Try.Ty.a17, Try.Ty.z17, Try.underlying19, Try.Ty.s19, Try.Ty.b19, Try.Ty.a19, Try.Ty.z19, Try.underlying31, Try.Ty.s31, Try.Ty.b31, Try.Ty.a31, Try.Ty.z31, Try.underlying33, Try.Ty.s33, Try.Ty.b33, Try.Ty.a33, Try.Ty.z33, Try.underlying38, Try.Ty.s38, Try.Ty.b38, Try.Ty.a38, Try.Ty.g38, Try.Ty.h38, Try.Ty.z38, Try.underlying39, Try.Ty.s39, Try.Ty.b39, Try.Ty.a39, Try.Ty.g39, Try.Ty.h39, Try.Ty.z39, Try.underlying47, Try.Ty.s47, Try.Ty.b47, Try.Ty.a47, Try.Ty.g47, Try.Ty.h47, Try.Ty.z47, Try.underlying48, Try.Ty.s48, Try.Ty.b48, Try.Ty.a48, Try.Ty.g48, Try.Ty.h48, Try.Ty.z48, Try.underlying92, Try.Ty.s92, Try.Ty.b92, Try.Ty.a92, Try.Ty.z92, Try.underlying93, Try.Ty.s93, Try.Ty.b93, Try.Ty.a93, Try.Ty.z93, Try.underlying94, Try.Ty.s94, Try.Ty.b94, Try.Ty.a94, Try.Ty.z94, Try.underlying96, Try.Ty.s96, Try.Ty.b96, Try.Ty.a96, Try.Ty.z96, Try.underlying97, Try.Ty.s97, Try.Ty.b97, Try.Ty.a97, Try.Ty.z97, Try.underlying98, Try.Ty.s98, Try.Ty.b98, Try.Ty.a98, Try.Ty.z98, Try.underlying100, Try.Ty.s100, Try.Ty.b100, Try.Ty.a100, Try.Ty.z100, T7, T6, T5, T4, T3, T2, T1, decide_true]
  exact ht
def tb_specLawSeconds : List Blk → List AV → Option (List Blk × AV × Prop)
  | [], [.agg [.int .i64 y, .int .i64 m, .int .i64 d, .int .i64 h, .int .i64 mi, .int .i64 s], .int .i64 t] => some ([], .bool true, (inR .i64 t))
  | _, _ => none
theorem tb_specLawSeconds_ok : ∀ E args E' res p, tb_specLawSeconds E args = some (E', res, p) → p → SpecE Try.prog 6 E args E' res := by
  intro E args E' res p h hp
  unfold tb_specLawSeconds at h
  split at h
  · simp only [Option.some.injEq, Prod.mk.injEq] at h
    obtain ⟨rfl, rfl, rfl⟩ := h
    exact (specLawSeconds _ _ _ _ _ _ _ hp)
  · cases h
end Go.Proofs.Try.Civil
