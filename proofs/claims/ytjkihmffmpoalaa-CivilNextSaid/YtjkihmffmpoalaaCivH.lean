/- civil: days and dates come back, the law. No condition. -/
import Derived.Test.YtjkihmffmpoalaaCivG
set_option linter.unusedVariables false
set_option linter.unusedSimpArgs false
namespace Go.Proofs.Try.Civil
open Go Go.Abs Go.Proofs

theorem in_iff {n : Int} : inDays n = true ↔ -719162 ≤ n ∧ n ≤ 2932896 := by simp [inDays]
theorem day_back {n : Int} (h : inDays n = true) : dayAns (aY n) (aM n) (aD n) = n ∧ right (aY n) (aM n) (aD n) = true := by
  obtain ⟨h1, h2⟩ := of_right (in_iff.1 h)
  simp only [aY, aM, aD, h, if_true, dayAns, h1, h2, and_self]
theorem at_unique {n y m d : Int} (h : inDays n = true) (hr : right y m d = true) (e : dayNo y m d = n) : aY n = y ∧ aM n = m ∧ aD n = d := by
  obtain ⟨h1, h2, h3⟩ := of_unique (in_iff.1 h) hr e
  simp only [aY, aM, aD, h, if_true, h1, h2, h3, and_self]
theorem sec_back {t : Int} (h : inDays (dQ t) = true) : secNo (aY (dQ t)) (aM (dQ t)) (aD (dQ t)) (dIn t (dR t / 3600)) (dIn t (dR t / 60 % 60)) (dIn t (dR t % 60)) = t ∧
    secOk (aY (dQ t)) (aM (dQ t)) (aD (dQ t)) (dIn t (dR t / 3600)) (dIn t (dR t / 60 % 60)) (dIn t (dR t % 60)) = true := by
  obtain ⟨h1, h2⟩ := day_back h
  have hb := dR_bounds t
  have hd : dayNo (aY (dQ t)) (aM (dQ t)) (aD (dQ t)) = dQ t := by simpa [dayAns, h2] using h1
  have hok : secOk (aY (dQ t)) (aM (dQ t)) (aD (dQ t)) (dIn t (dR t / 3600)) (dIn t (dR t / 60 % 60)) (dIn t (dR t % 60)) = true := by
    rw [secOk_iff]
    simp only [dIn, h, if_true]
    exact ⟨h2, by omega, by omega, by omega⟩
  refine ⟨?_, hok⟩
  have e1 : dQ t * 86400 + dR t = t := by unfold dQ dR; omega
  unfold secNo
  rw [if_pos hok, hd]
  simp only [dIn, if_pos h]
  omega
theorem day_last {n : Int} (h : inDays n = true) (h' : inDays (n + 1) = false) : aY n = 9999 ∧ aM n = 12 ∧ aD n = 31 := by
  have h1 := in_iff.1 h
  have h2 : ¬ (-719162 ≤ n + 1 ∧ n + 1 ≤ 2932896) := by rw [← in_iff, h']; simp
  have e : n = 2932896 := by omega
  subst e
  exact at_unique h (by decide +kernel) (by decide +kernel)
theorem day_next {n : Int} (h : inDays n = true) (h' : inDays (n + 1) = true) :
    (((aY (n + 1) = aY n ∧ aM (n + 1) = aM n) ∧ aD (n + 1) = aD n + 1) ∧ aD n < long (aY n) (aM n) ∨ ((aY (n + 1) = aY n ∧ aM (n + 1) = aM n + 1) ∧ aD (n + 1) = 1) ∧ aD n = long (aY n) (aM n)) ∨
      (((aY (n + 1) = aY n + 1 ∧ aM (n + 1) = 1) ∧ aD (n + 1) = 1) ∧ aM n = 12) ∧ aD n = 31 := by
  obtain ⟨h1, h2⟩ := day_back h
  have hd : dayNo (aY n) (aM n) (aD n) = n := by simpa [dayAns, h2] using h1
  obtain ⟨a1, a2, a3, a4, a5, a6⟩ := right_bounds h2
  have hl := (right_iff.1 h2).2.2.2
  generalize aY n = y at *
  generalize aM n = m at *
  generalize aD n = d at *
  have b' := in_iff.1 h'
  by_cases hlt : d < long y m
  · obtain ⟨e1, e2, e3⟩ := at_unique (y := y) (m := m) (d := d + 1) h' (right_iff.2 ⟨a1, a2, by omega, by omega⟩) (by unfold dayNo at *; omega)
    exact .inl (.inl ⟨⟨⟨e1, e2⟩, e3⟩, hlt⟩)
  · have he : d = long y m := by omega
    have cs := cum_step (y := y) (m := m) ⟨a3, a4⟩
    by_cases hm : m = 12
    · subst hm
      have h31 : long y 12 = 31 := by simp [long, lens]
      have hw := dby_whole y
      have t1 : cum y 13 = whole y := by unfold whole; by_cases hl : leap y = true <;> simp [cum, cumL, hl]
      have c1 := cum_1 (y + 1)
      have e12 : (12 : Int) + 1 = 13 := by decide
      rw [e12] at cs
      have hno : dayNo (y + 1) 1 1 = n + 1 := by unfold dayNo at *; omega
      have hy : y + 1 ≤ 9999 := by
        have := year_bound (y := y + 1) (by unfold dayNo at hno; omega)
        omega
      obtain ⟨e1, e2, e3⟩ := at_unique (y := y + 1) (m := 1) (d := 1) h' (right_iff.2 ⟨by omega, hy, by omega, by simp [long, lens]⟩) hno
      exact .inr ⟨⟨⟨⟨e1, e2⟩, e3⟩, rfl⟩, by omega⟩
    · have hlo : 1 ≤ long y (m + 1) := by
        have : m + 1 = 2 ∨ m + 1 = 3 ∨ m + 1 = 4 ∨ m + 1 = 5 ∨ m + 1 = 6 ∨ m + 1 = 7 ∨ m + 1 = 8 ∨ m + 1 = 9 ∨ m + 1 = 10 ∨ m + 1 = 11 ∨ m + 1 = 12 := by omega
        rcases this with e | e | e | e | e | e | e | e | e | e | e <;> rw [e] <;> by_cases hl : leap y = true <;> simp [long, lens, hl]
      obtain ⟨e1, e2, e3⟩ := at_unique (y := y) (m := m + 1) (d := 1) h' (right_iff.2 ⟨a1, a2, by omega, hlo⟩) (by unfold dayNo at *; omega)
      exact .inl (.inr ⟨⟨⟨e1, e2⟩, e3⟩, he⟩)

def T_specLawNext : Tbl := fun g E args => (addT (addT T7 29 Go.Proofs.Try.Civil.tb_specSeconds) 31 Go.Proofs.Try.Civil.tb_specDate) g E args
theorem T_specLawNext_ok : TblOK Try.prog T_specLawNext := (addT_ok (addT_ok T7_ok (by decide +kernel) Go.Proofs.Try.Civil.tb_specSeconds_ok) (by decide +kernel) Go.Proofs.Try.Civil.tb_specDate_ok)
set_option maxRecDepth 100000 in
set_option maxHeartbeats 4000000 in
theorem specLawNext (n t : Int) (hn : inR .i64 n) (ht : inR .i64 t) : SpecE Try.prog 7 [] [.int .i64 n, .int .i64 t] [] (.bool true) := by
  refine specF0 (C := T_specLawNext) (wr := false) (D := fun _ => []) (U := fun i => if i = 6 then some ⟨Unit, fun _ => ⟨[(0, .int .i64 n), (1, .int .i64 t)], []⟩, fun _ => True⟩ else none) (res := [.bool true]) Try.Ty.mixed T_specLawNext_ok Try.func7 (nA := 2) (by decide +kernel) rfl (fun _ => rfl) ?_
  simp only [Try.f7, bodyOf, rlOf]
  rw [W_V]
  simp (config := {maxSteps := 2000000}) only [T_specLawNext, Go.Proofs.Try.Civil.tb_specSeconds, Go.Proofs.Try.Civil.tb_specDate, V_skip, V_label, V_regF, V_regT, V_seq, V_cond, V_block, V_loop, V_exit, V_ret, kseq_normal, kseq_exit, kseq_ret, kblk_normal, kblk_exit, kblk_ret, kinv_normal, kinv_exit, kinv_ret, VO_nil, VO_cons, VD_nil, VD_cons, VP_none, VPQ_none, VP_some, VPQ_some, WeakE, noAnyT, subTE, subBE, blkE, extsOK, stepP_some, stepQ_some, grdP_nil, grdP_cons, grdP_none, grdQ_nil, grdQ_none, cndP_bool, serP_true, serP_false, wrapP_some, wrapE_some, wrapP_none, wrapE_none, orR_some, orR_none, es_move, es_assign, es_pick, es_binOp, es_unOp, es_index, es_field, es_fieldAddr, es_extract, es_build, es_nilCheck, es_makeFunc, es_max, es_min, es_load, es_indexAddr, es_slice, es_convert, es_len, es_alloc, es_box, es_buildSlice, es_makeSlice, es_store, es_range, es_next, es_append, es_call, guardE, evPure, evRead, evEff, evCall, evCallP, evPick, evNilCheck, evBuiltin, evBin, evUn, evConv, evExtract, evIndex, evField, evFieldAddr, evIndexAddr, evSlice, evLen, evMax, evMin, evBuild, boundA, unO, idOf, rdLen, rdIndexAddr, rdSlice, rdLoad, rdText, efStore, arrT, efBoxed, boxC, efBuildSlice, efMake, efBytes, elemsA, efRange, efNext, srcA, srcT, efAppend, purA, purL, AV.un, AV.uc, ucL, opnds, arithV, arithP, St.ev, St.get, St.lk, St.put, St.upd, lkA, lkB, AV.ofVal, St.init, argT, extB, scal, ren, renL, renB, sig, newBlks, marks, freshIds, deadId, addT, nilT, setAt, fillA, placesL, AV.cells, FinR, FinS, noAny, subP, resR, slotE, inR, isBoolT, AV.flat, AV.shaped, AV.one, one1, oneT, c0, c1, c2, c3, idsOK, idsOKL, evCall1, evCallH, pids, pidsL, mids, midsL, hasId, allIds, blkIds, reach, idxOf, sigH, handE, hpL, keptOK, sameBlks, apartIds, noDup, orT_some, orT_none, FinE, FinEv, sigX, okX, argOK, enc_u8, dec_u8, enc_strs, dec_strs, enc_ints, dec_ints, enc_bytes, dec_bytes, toStr, toInt, listOf, map_str_toStr, map_int_toInt, map_byte_toByte, dec_u8_byte, pidsL_append, pidsL_map, ren_map, call1a, call1b, call1c, reachI, handE1, hpArg, hpJoin, kept1, callHa, callHb, callHi, orH_some, orH_none, evBinX, evBinS, evEqB, evEqO, evEqOp, otherA, evEq, evEqS, evEqF, fldA, eqInt, eqBool, eqStr, eqPtr, eqSl, eqFn, seqU_none, seqU_some, fstR, kcut_normal, kcut_exit, kcut_ret, List.map_cons, List.map_nil, List.map_toArray, List.toList_toArray, List.cons_append, List.nil_append, List.append_nil, List.append_assoc, Option.toList_some, Option.toList_none, List.getElem?_cons_zero, List.getElem?_cons_succ, List.getElem?_toArray, List.size_toArray, List.length_cons, List.length_nil, Option.getD_some, Option.getD_none, reduceIte, Nat.reduceEqDiff, Nat.reduceAdd, Nat.reduceMul, Nat.reduceSub, Nat.reduceBEq, Nat.reduceLT, Nat.reduceLeDiff, true_and, and_true, implies_true, forall_const, if_true, if_false, ite_true, ite_false, Bool.true_and, Bool.and_true, Bool.false_and, Bool.and_false, beq_self_eq_true, beq_true, beq_false, imp_self, false_implies, and_self,  Bool.true_beq, Bool.false_beq, reduceCtorEq, Int.reduceNeg, ne_eq, not_false_eq_true, Int.reduceEq, String.reduceEq, Int.reduceLT, Int.reduceLE, Int.reduceToNat, Int.reduceAdd, Int.reduceMul, Int.reduceSub, Function.comp, eq_self, cond_true, cond_false, Bool.not_true, Bool.not_false, Bool.true_eq_false, Bool.false_eq_true, Bool.and_eq_true, Bool.not_eq_true', Bool.not_not, and_imp, List.take_succ_cons, List.take_zero, List.drop_succ_cons, List.drop_zero, List.mem_cons, List.not_mem_nil, forall_eq_or_imp, or_false, forall_eq, false_or, List.all_cons, List.all_nil, List.replicate_succ, List.replicate_zero, List.mem_nil_iff, Option.map_some, Option.map_none, List.flatMap_cons, List.flatMap_nil, Bool.true_or, Bool.or_true, Bool.false_or, Bool.or_false, List.set_cons_zero, List.set_cons_succ, List.getD_cons_zero, List.getD_cons_succ, Bool.cond_true_left, Bool.cond_false_right, Bool.or_eq_true, Bool.or_eq_false_iff, decide_eq_true_eq, decide_eq_false_iff_not, Int.not_lt, Int.not_le, Try.underlying2, Try.Ty.s2, Try.Ty.b2, Try.Ty.a2, Try.Ty.z2, Try.underlying3, Try.Ty.s3, Try.Ty.b3, Try.Ty.a3, Try.Ty.z3, Try.underlying4, Try.Ty.s4, Try.Ty.b4, Try.Ty.a4, Try.Ty.z4, Try.underlying5, Try.Ty.s5, Try.Ty.b5, Try.Ty.a5, Try.Ty.z5, Try.underlying6, Try.Ty.s6, Try.Ty.b6, Try.Ty.a6, Try.Ty.z6, Try.underlying7, Try.Ty.s7, Try.Ty.b7, Try.Ty.a7, Try.Ty.g7, Try.Ty.h7, Try.Ty.z7, Try.underlying8, Try.Ty.s8, Try.Ty.b8, Try.Ty.a8, Try.Ty.g8, Try.Ty.h8, Try.Ty.z8, Try.underlying9, Try.Ty.s9, Try.Ty.b9, Try.Ty.a9, Try.Ty.z9, Try.underlying10, Try.Ty.s10, Try.Ty.b10, Try.Ty.a10, Try.Ty.z10, Try.underlying11, Try.Ty.s11, Try.Ty.b11, Try.Ty.a11, Try.Ty.z11, Try.underlying12, Try.Ty.s12, Try.Ty.b12, Try.Ty.a12, Try.Ty.z12, Try.underlying13, Try.Ty.s13, Try.Ty.b13, Try.Ty.a13, Try.Ty.z13, Try.underlying14, Try.Ty.s14, Try.Ty.b14, Try.Ty.a14, Try.Ty.z14, Try.underlying15, Try.Ty.s15, Try.Ty.b15, Try.Ty.a15, Try.Ty.z15, Try.underlying16, Try.Ty.s16, Try.Ty.b16, Try.Ty.a16, Try.Ty.z16, Try.underlying17, Try.Ty.s17, Try.Ty.b17, Try.Ty.a17, Try.Ty.z17, Try.underlying18, Try.Ty.s18, Try.Ty.b18, Try.Ty.a18, Try.Ty.z18, Try.underlying19, Try.Ty.s19, Try.Ty.b19, Try.Ty.a19, Try.Ty.z19, Try.underlying20, Try.Ty.s20, Try.Ty.b20, Try.Ty.a20, Try.Ty.z20, Try.underlying31, Try.Ty.s31, Try.Ty.b31, Try.Ty.a31, Try.Ty.z31, Try.underlying39, Try.Ty.s39, Try.Ty.b39, Try.Ty.a39, Try.Ty.g39, Try.Ty.h39, Try.Ty.z39, Try.underlying47, Try.Ty.s47, Try.Ty.b47, Try.Ty.a47, Try.Ty.g47, Try.Ty.h47, Try.Ty.z47, Try.underlying62, Try.Ty.s62, Try.Ty.b62, Try.Ty.a62, Try.Ty.g62, Try.Ty.h62, Try.Ty.z62, Try.underlying63, Try.Ty.s63, Try.Ty.b63, Try.Ty.a63, Try.Ty.g63, Try.Ty.h63, Try.Ty.z63, Try.underlying88, Try.Ty.s88, Try.Ty.b88, Try.Ty.a88, Try.Ty.z88, Try.underlying89, Try.Ty.s89, Try.Ty.b89, Try.Ty.a89, Try.Ty.z89, Try.underlying91, Try.Ty.s91, Try.Ty.b91, Try.Ty.a91, Try.Ty.z91, Try.underlying92, Try.Ty.s92, Try.Ty.b92, Try.Ty.a92, Try.Ty.z92, Try.underlying93, Try.Ty.s93, Try.Ty.b93, Try.Ty.a93, Try.Ty.z93, Try.underlying94, Try.Ty.s94, Try.Ty.b94, Try.Ty.a94, Try.Ty.z94, Try.underlying96, Try.Ty.s96, Try.Ty.b96, Try.Ty.a96, Try.Ty.z96, Try.underlying97, Try.Ty.s97, Try.Ty.b97, Try.Ty.a97, Try.Ty.z97, Try.underlying98, Try.Ty.s98, Try.Ty.b98, Try.Ty.a98, Try.Ty.z98, Try.underlying100, Try.Ty.s100, Try.Ty.b100, Try.Ty.a100, Try.Ty.z100, T7, T6, T5, T4, T3, T2, T1, decide_true]
  simp only [inR] at hn ht
  obtain ⟨hs1, hs2⟩ : (inDays (dQ t) = true → secNo (aY (dQ t)) (aM (dQ t)) (aD (dQ t)) (dIn t (dR t / 3600)) (dIn t (dR t / 60 % 60)) (dIn t (dR t % 60)) = t) ∧
      (inDays (dQ t) = true → secOk (aY (dQ t)) (aM (dQ t)) (aD (dQ t)) (dIn t (dR t / 3600)) (dIn t (dR t / 60 % 60)) (dIn t (dR t % 60)) = true) :=
    ⟨fun h => (sec_back h).1, fun h => (sec_back h).2⟩
  refine ⟨⟨ht, fun h => ⟨fun _ => hs1 h, fun hh => ?_, fun _ _ => ⟨(), trivial⟩⟩, fun _ => ⟨(), trivial⟩⟩, fun h => ?_, fun h => ?_⟩
  · rcases hh with hh | hh
    · exact hh (hs1 h)
    · rw [hs2 h] at hh; exact absurd hh (by simp)
  · simp [aY, aM, aD, h]
  have hin : inDays n = true := by simpa using h
  obtain ⟨hd, hr⟩ := day_back hin
  refine ⟨fun _ => hd, fun hh => ?_, fun _ _ => ?_⟩
  · rcases hh with hh | hh
    · exact hh hd
    · rw [hr] at hh; exact absurd hh (by simp)
  obtain ⟨a1, a2, a3, a4, a5, a6⟩ := right_bounds hr
  have b : -719162 ≤ n ∧ n ≤ 2932896 := by simpa [inDays] using hin
  refine ⟨by omega, fun hlast => ?_, fun hnext => ?_⟩
  · obtain ⟨e1, e2, e3⟩ := day_last hin hlast
    exact ⟨⟨e1, e2⟩, e3⟩
  have hin' : inDays (n + 1) = true := by simpa using hnext
  have key := day_next hin hin'
  have hw : weekday (n + 1) = (weekday n + 1).tmod 7 := by
    rw [rem_nn _ (by unfold weekday; omega)]
    unfold weekday; omega
  have hwb : 0 ≤ weekday n ∧ weekday n ≤ 6 := by unfold weekday; omega
  exact ⟨fun e1 e2 => ⟨⟨e1, e2⟩, by omega, by omega⟩, fun e1 => ⟨e1, by omega, by omega⟩, by omega, fun _ => ⟨key, by omega, by omega⟩, fun _ => ⟨key, by omega, by omega⟩, key, hw⟩
def tb_specLawNext : List Blk → List AV → Option (List Blk × AV × Prop)
  | [], [.int .i64 n, .int .i64 t] => some ([], .bool true, (inR .i64 n) ∧ (inR .i64 t))
  | _, _ => none
theorem tb_specLawNext_ok : ∀ E args E' res p, tb_specLawNext E args = some (E', res, p) → p → SpecE Try.prog 7 E args E' res := by
  intro E args E' res p h hp
  unfold tb_specLawNext at h
  split at h
  · simp only [Option.some.injEq, Prod.mk.injEq] at h
    obtain ⟨rfl, rfl, rfl⟩ := h
    exact (specLawNext _ _ hp.1 hp.2)
  · cases h
end Go.Proofs.Try.Civil
