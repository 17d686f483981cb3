/- cache: the walks of the program. No condition beyond those that a machine's numbers bring. -/
import Derived.Test.YtanpmebamgnhbaaSlcD
import Derived.Test.YtanpmebamgnhbaaHdrA
import Derived.Test.YtanpmebamgnhbaaParR
import Derived.Test.YtanpmebamgnhbaaLists
import Derived.Test.YtanpmebamgnhbaaDig
import Derived.Test.YtanpmebamgnhbaaConM
set_option linter.unusedVariables false
set_option linter.unusedSimpArgs false
namespace Go.Proofs.Try.Cur
open Go Go.Abs Go.Proofs Go.Mdl

def T_specLeftK : Tbl := fun g E args => nilT g E args
theorem T_specLeftK_ok : TblOK Try.prog T_specLeftK := nilT_ok
set_option maxRecDepth 100000 in
set_option maxHeartbeats 4000000 in
theorem specLeftK (s : List UInt8) (a : Int) (h : 0 ≤ a ∧ a ≤ s.length) : SpecE Try.prog 254 [] [.radr [.str s, .int .i64 a]] [] (.str (s.drop a.toNat)) := by
  refine specF0 (C := T_specLeftK) (wr := false) (D := fun _ => []) (U := fun _ => none) (res := [.str (s.drop a.toNat)]) Try.Ty.mixed T_specLeftK_ok Try.func254 (nA := 1) (by decide +kernel) rfl (fun _ => rfl) ?_
  simp only [Try.f254, bodyOf, rlOf]
  rw [W_V]
  simp (config := {maxSteps := 2000000}) only [T_specLeftK, go_sem, reduceIte, Nat.reduceEqDiff, Nat.reduceAdd, Nat.reduceMul, Nat.reduceSub, Nat.reduceBEq, Nat.reduceLT, Nat.reduceLeDiff, reduceCtorEq, Int.reduceNeg, Int.reduceEq, String.reduceEq, Int.reduceLT, Int.reduceLE, Int.reduceToNat, Int.reduceAdd, Int.reduceMul, Int.reduceSub]
  (try simp (config := {maxSteps := 2000000}) only [gimp, impB, isT, go_sem, reduceIte, Nat.reduceEqDiff, Nat.reduceAdd, Nat.reduceMul, Nat.reduceSub, Nat.reduceBEq, Nat.reduceLT, Nat.reduceLeDiff, reduceCtorEq, Int.reduceNeg, Int.reduceEq, String.reduceEq, Int.reduceLT, Int.reduceLE, Int.reduceToNat, Int.reduceAdd, Int.reduceMul, Int.reduceSub])
  exact h
def tb_specLeftK : List Blk → List AV → Option (List Blk × AV × Prop)
  | [], [.radr [.str s, .int .i64 a]] => some ([], .str (s.drop a.toNat), (0 ≤ a ∧ a ≤ s.length))
  | _, _ => none
theorem tb_specLeftK_ok : ∀ E args E' res p, tb_specLeftK E args = some (E', res, p) → p → SpecE Try.prog 254 E args E' res := by
  intro E args E' res p h hp
  unfold tb_specLeftK at h
  split at h
  · simp only [Option.some.injEq, Prod.mk.injEq] at h
    obtain ⟨rfl, rfl, rfl⟩ := h
    exact (specLeftK _ _ hp)
  · cases h

def T_specDoneK : Tbl := fun g E args => (addT nilT 254 Go.Proofs.Try.Cur.tb_specLeftK) g E args
theorem T_specDoneK_ok : TblOK Try.prog T_specDoneK := (addT_ok nilT_ok (by decide +kernel) Go.Proofs.Try.Cur.tb_specLeftK_ok)
set_option maxRecDepth 100000 in
set_option maxHeartbeats 4000000 in
theorem specDoneK (s : List UInt8) (a : Int) (h : 0 ≤ a ∧ a ≤ s.length) : SpecE Try.prog 161 [] [.radr [.str s, .int .i64 a]] [] (.bool (decide (s.drop a.toNat = []))) := by
  refine specF0 (C := T_specDoneK) (wr := false) (D := fun _ => []) (U := fun _ => none) (res := [.bool (decide (s.drop a.toNat = []))]) Try.Ty.mixed T_specDoneK_ok Try.func161 (nA := 1) (by decide +kernel) rfl (fun _ => rfl) ?_
  simp only [Try.f161, bodyOf, rlOf]
  rw [W_V]
  simp (config := {maxSteps := 2000000}) only [T_specDoneK, Go.Proofs.Try.Cur.tb_specLeftK, go_sem, reduceIte, Nat.reduceEqDiff, Nat.reduceAdd, Nat.reduceMul, Nat.reduceSub, Nat.reduceBEq, Nat.reduceLT, Nat.reduceLeDiff, reduceCtorEq, Int.reduceNeg, Int.reduceEq, String.reduceEq, Int.reduceLT, Int.reduceLE, Int.reduceToNat, Int.reduceAdd, Int.reduceMul, Int.reduceSub]
  (try simp (config := {maxSteps := 2000000}) only [gimp, impB, isT, go_sem, reduceIte, Nat.reduceEqDiff, Nat.reduceAdd, Nat.reduceMul, Nat.reduceSub, Nat.reduceBEq, Nat.reduceLT, Nat.reduceLeDiff, reduceCtorEq, Int.reduceNeg, Int.reduceEq, String.reduceEq, Int.reduceLT, Int.reduceLE, Int.reduceToNat, Int.reduceAdd, Int.reduceMul, Int.reduceSub])
  exact h
def tb_specDoneK : List Blk → List AV → Option (List Blk × AV × Prop)
  | [], [.radr [.str s, .int .i64 a]] => some ([], .bool (decide (s.drop a.toNat = [])), (0 ≤ a ∧ a ≤ s.length))
  | _, _ => none
theorem tb_specDoneK_ok : ∀ E args E' res p, tb_specDoneK E args = some (E', res, p) → p → SpecE Try.prog 161 E args E' res := by
  intro E args E' res p h hp
  unfold tb_specDoneK at h
  split at h
  · simp only [Option.some.injEq, Prod.mk.injEq] at h
    obtain ⟨rfl, rfl, rfl⟩ := h
    exact (specDoneK _ _ hp)
  · cases h
end Go.Proofs.Try.Cur
namespace Go.Proofs.Try.Cac
open Go Go.Abs Go.Proofs Go.Mdl

def T_specOne : Tbl := fun g E args => (addT (addT (addT (addT (addT (addT nilT 155 Go.Proofs.Try.Cur.tb_specNew) 156 Go.Proofs.Try.Cur.tb_specToken) 159 Go.Proofs.Try.Cur.tb_specByte) 255 Go.Proofs.Try.Cur.tb_specQuoted) 161 Go.Proofs.Try.Cur.tb_specDoneK) 152 Go.Proofs.Try.Oct.tb_specLower) g E args
theorem T_specOne_ok : TblOK Try.prog T_specOne := (addT_ok (addT_ok (addT_ok (addT_ok (addT_ok (addT_ok nilT_ok (by decide +kernel) Go.Proofs.Try.Cur.tb_specNew_ok) (by decide +kernel) Go.Proofs.Try.Cur.tb_specToken_ok) (by decide +kernel) Go.Proofs.Try.Cur.tb_specByte_ok) (by decide +kernel) Go.Proofs.Try.Cur.tb_specQuoted_ok) (by decide +kernel) Go.Proofs.Try.Cur.tb_specDoneK_ok) (by decide +kernel) Go.Proofs.Try.Oct.tb_specLower_ok)
set_option maxRecDepth 100000 in
set_option maxHeartbeats 4000000 in
theorem specOne (s : List UInt8) (hs : s.length ≤ 1000000) : SpecE Try.prog 208 [] [.str s] [] (.tuple [.agg [.str (dirS s).1, .str (dirS s).2.1, .bool (dirS s).2.2], .bool (dirOk s)]) := by
  refine specF0 (C := T_specOne) (wr := false) (D := fun i => if i = 9 then [11] else []) (U := fun _ => none) (res := [.agg [.str (dirS s).1, .str (dirS s).2.1, .bool (dirS s).2.2], .bool (dirOk s)]) Try.Ty.mixed T_specOne_ok Try.func208 (nA := 1) (by decide +kernel) rfl (fun _ => rfl) ?_
  simp only [Try.f208, bodyOf, rlOf]
  rw [W_V]
  simp (config := {maxSteps := 2000000}) only [T_specOne, Go.Proofs.Try.Cur.tb_specNew, Go.Proofs.Try.Cur.tb_specToken, Go.Proofs.Try.Cur.tb_specByte, Go.Proofs.Try.Cur.tb_specQuoted, Go.Proofs.Try.Cur.tb_specDoneK, Go.Proofs.Try.Oct.tb_specLower, go_sem, reduceIte, Nat.reduceEqDiff, Nat.reduceAdd, Nat.reduceMul, Nat.reduceSub, Nat.reduceBEq, Nat.reduceLT, Nat.reduceLeDiff, reduceCtorEq, Int.reduceNeg, Int.reduceEq, String.reduceEq, Int.reduceLT, Int.reduceLE, Int.reduceToNat, Int.reduceAdd, Int.reduceMul, Int.reduceSub]
  (try simp (config := {maxSteps := 2000000}) only [gimp, impB, isT, go_sem, reduceIte, Nat.reduceEqDiff, Nat.reduceAdd, Nat.reduceMul, Nat.reduceSub, Nat.reduceBEq, Nat.reduceLT, Nat.reduceLeDiff, reduceCtorEq, Int.reduceNeg, Int.reduceEq, String.reduceEq, Int.reduceLT, Int.reduceLE, Int.reduceToNat, Int.reduceAdd, Int.reduceMul, Int.reduceSub])
  have hN : spanL tcharB s = dirN s := rfl
  have e61 : UInt8.ofNat 61 = (61 : UInt8) := rfl
  have hm : (1000000 : Nat) ≤ maxLen := by decide
  have hnl := dirN_le s
  have hnm : lowerS (s.take (dirN s)) = [] ↔ dirN s = 0 := by
    rw [← List.length_eq_zero_iff, lowerS_len, List.length_take]; omega
  have htl : (s.take (dirN s)).length ≤ maxLen := by rw [List.length_take]; omega
  rw [hN]
  simp only [e61, Int.zero_add, Int.toNat_natCast, hnm]
  by_cases H : (s.drop (dirN s)).head? = some 61
  · have hs1 : dirSet s = true := by simp [dirSet, H]
    have hlt := dirSet_lt hs1
    have e1 : ((dirN s : Nat) : Int) + 1 = ((dirN s + 1 : Nat) : Int) := by omega
    have hR : s.drop (dirN s + 1) = dirR s := rfl
    have hRl : (dirR s).length = s.length - (dirN s + 1) := by simp [dirR]
    simp only [H, if_true, decide_true, e1, Int.toNat_natCast, hR]
    have hk := spanL_le tcharB (dirR s)
    have hemp : (dirR s).take (spanL tcharB (dirR s)) = [] ↔ spanL tcharB (dirR s) = 0 := by
      rw [← List.length_eq_zero_iff, List.length_take]; omega
    have hql := qLen_le (dirR s)
    have hS : dirS s = (lowerS (s.take (dirN s)), dirV s, true) := by simp [dirS, hs1]
    have hV : dirV s = if spanL tcharB (dirR s) = 0 then qText (dirR s) else (dirR s).take (spanL tcharB (dirR s)) := by rw [dirV, if_pos hs1]
    have hO : dirOk s = ((if spanL tcharB (dirR s) = 0 then qHas (dirR s) else true) && (!decide (dirN s = 0) && decide (s.drop (dirN s + 1 + (if spanL tcharB (dirR s) = 0 then qLen (dirR s) else spanL tcharB (dirR s))) = []))) := by
      simp only [dirOk, dirQ, dirEnd, hs1, if_true]
    rw [hemp, hS, hV, hO]
    generalize spanL tcharB (dirR s) = k at *
    refine ⟨⟨by omega, hs⟩, htl, ⟨⟨by omega, by omega, hs⟩, rfl⟩, fun _ => ⟨⟨by omega, by omega, hs⟩, fun hz => ?_, fun hz => ?_⟩, fun h => by cases h⟩
    · subst hz
      have e3 : (((dirN s + 1 : Nat) : Int) + ((0 : Nat) : Int)).toNat = dirN s + 1 := by omega
      rw [e3, hR]
      have e4 : (((dirN s + 1 : Nat) : Int) + ((0 : Nat) : Int) + (qLen (dirR s) : Nat)).toNat = dirN s + 1 + qLen (dirR s) := by omega
      rw [e4]
      refine ⟨⟨by omega, by omega, hs⟩, ⟨fun _ _ => by omega, fun _ _ => by omega⟩, by simp, by simp [Bool.and_assoc]⟩
    · have e3 : (((dirN s + 1 : Nat) : Int) + (k : Nat)).toNat = dirN s + 1 + k := by omega
      rw [e3]
      exact ⟨⟨fun _ => by omega, fun _ => by omega⟩, by simp [hz], by simp [hz]⟩
  · have hs1 : dirSet s = false := decide_eq_false H
    simp only [H, if_false, decide_false]
    refine ⟨⟨by omega, hs⟩, htl, ⟨⟨by omega, by omega, hs⟩, rfl⟩, fun h => (by cases h), fun _ => ⟨⟨fun _ => by omega, fun _ => by omega⟩, ?_, ?_⟩⟩
    · simp [dirS, dirV, hs1]
    · simp [dirOk, dirQ, dirEnd, hs1]
def tb_specOne : List Blk → List AV → Option (List Blk × AV × Prop)
  | [], [.str s] => some ([], .tuple [.agg [.str (dirS s).1, .str (dirS s).2.1, .bool (dirS s).2.2], .bool (dirOk s)], (s.length ≤ 1000000))
  | _, _ => none
theorem tb_specOne_ok : ∀ E args E' res p, tb_specOne E args = some (E', res, p) → p → SpecE Try.prog 208 E args E' res := by
  intro E args E' res p h hp
  unfold tb_specOne at h
  split at h
  · simp only [Option.some.injEq, Prod.mk.injEq] at h
    obtain ⟨rfl, rfl, rfl⟩ := h
    exact (specOne _ hp)
  · cases h

def T_specParse : Tbl := fun g E args => (addT (addT nilT 35 Go.Proofs.Try.Lists.tb_specSplit) 208 Go.Proofs.Try.Cac.tb_specOne) g E args
theorem T_specParse_ok : TblOK Try.prog T_specParse := (addT_ok (addT_ok nilT_ok (by decide +kernel) Go.Proofs.Try.Lists.tb_specSplit_ok) (by decide +kernel) Go.Proofs.Try.Cac.tb_specOne_ok)
set_option maxRecDepth 100000 in
set_option maxHeartbeats 4000000 in
theorem specParse (s : List UInt8) (hs : s.length ≤ 100000000) (hsm : ∀ e ∈ splitS s, e.length ≤ 1000000) : SpecE Try.prog 114 [] [.str s] [] (.tuple [enc_dirs (dirsS s), .bool (dirsOk s)]) := by
  refine specF0 (C := T_specParse) (wr := false) (D := fun _ => []) (U := fun _ => none) (res := [enc_dirs (dirsS s), .bool (dirsOk s)]) Try.Ty.mixed T_specParse_ok Try.func114 (nA := 1) (by decide +kernel) rfl (fun _ => rfl) ?_
  simp only [Try.f114, bodyOf, rlOf]
  rw [W_V]
  simp (config := {maxSteps := 2000000}) only [T_specParse, Go.Proofs.Try.Lists.tb_specSplit, Go.Proofs.Try.Cac.tb_specOne, go_sem, reduceIte, Nat.reduceEqDiff, Nat.reduceAdd, Nat.reduceMul, Nat.reduceSub, Nat.reduceBEq, Nat.reduceLT, Nat.reduceLeDiff, reduceCtorEq, Int.reduceNeg, Int.reduceEq, String.reduceEq, Int.reduceLT, Int.reduceLE, Int.reduceToNat, Int.reduceAdd, Int.reduceMul, Int.reduceSub]
  (try simp (config := {maxSteps := 2000000}) only [gimp, impB, isT, go_sem, reduceIte, Nat.reduceEqDiff, Nat.reduceAdd, Nat.reduceMul, Nat.reduceSub, Nat.reduceBEq, Nat.reduceLT, Nat.reduceLeDiff, reduceCtorEq, Int.reduceNeg, Int.reduceEq, String.reduceEq, Int.reduceLT, Int.reduceLE, Int.reduceToNat, Int.reduceAdd, Int.reduceMul, Int.reduceSub])
  have hcnt := splitS_count s
  have hO : dirsOk s = (endsS s && (splitS s).all dirOk) := rfl
  have hS : dirsS s = if dirsOk s = true then (splitS s).map dirS else [] := rfl
  refine ⟨by omega, ?_⟩
  rw [hO] at hS
  rw [hO, hS]
  generalize endsS s = en at *
  generalize splitS s = w at *
  refine VL_inv (X := Nat) (fun k => ⟨[(5, .bool (en && (w.take k).all dirOk)), (6, .ref 5000 0 (w.take k).length (w.take k).length), (16, enc_strs w), (17, .int .i64 w.length), (18, .int .i64 k)], [(5000, .cells 3 false (.agg [.str [], .str [], .bool false]) (((w.take k).map dirS).map enc_dir))]⟩) (fun k => k ≤ w.length) (fun k => w.length - k) 0 ?_ ?_ ?_
  · simp only [List.take_zero, List.all_nil, List.map_nil, Bool.and_true, go_sem, go_sem, reduceIte, Nat.reduceEqDiff, Nat.reduceAdd, Nat.reduceMul, Nat.reduceSub, Nat.reduceBEq, Nat.reduceLT, Nat.reduceLeDiff, reduceCtorEq, Int.reduceNeg, Int.reduceEq, String.reduceEq, Int.reduceLT, Int.reduceLE, Int.reduceToNat, Int.reduceAdd, Int.reduceMul, Int.reduceSub]
    try rfl
  · exact Nat.zero_le _
  rintro k hk
  simp (config := {maxSteps := 2000000}) only [T_specParse, Go.Proofs.Try.Lists.tb_specSplit, Go.Proofs.Try.Cac.tb_specOne, go_sem, reduceIte, Nat.reduceEqDiff, Nat.reduceAdd, Nat.reduceMul, Nat.reduceSub, Nat.reduceBEq, Nat.reduceLT, Nat.reduceLeDiff, reduceCtorEq, Int.reduceNeg, Int.reduceEq, String.reduceEq, Int.reduceLT, Int.reduceLE, Int.reduceToNat, Int.reduceAdd, Int.reduceMul, Int.reduceSub]
  (try simp (config := {maxSteps := 2000000}) only [gimp, impB, isT, go_sem, reduceIte, Nat.reduceEqDiff, Nat.reduceAdd, Nat.reduceMul, Nat.reduceSub, Nat.reduceBEq, Nat.reduceLT, Nat.reduceLeDiff, reduceCtorEq, Int.reduceNeg, Int.reduceEq, String.reduceEq, Int.reduceLT, Int.reduceLE, Int.reduceToNat, Int.reduceAdd, Int.reduceMul, Int.reduceSub])
  have hlk : (w.take k).length ≤ k := by rw [List.length_take]; omega
  have ht := fun h : k < w.length => take_succ_getD (s := w) [] h
  have hall : k < w.length → (w.take (k + 1)).all dirOk = ((w.take k).all dirOk && dirOk (w.getD k [])) := fun h => by
    rw [ht h, List.all_append]; simp only [List.all_cons, List.all_nil, Bool.and_true]
  refine ⟨fun hlt => ⟨by omega, hsm _ (List.mem_of_getElem? (getD_of_lt (s := w) (d := []) (by omega))), by omega, by omega, k + 1, ⟨⟨?_, ?_, by omega⟩, ?_⟩, by omega, by omega⟩, fun hge => ?_⟩
  · rw [hall (by omega), Bool.and_assoc]
  · rw [ht (by omega)]; simp
  · rw [ht (by omega)]; simp [enc_dir]
  · rw [List.take_of_length_le (show w.length ≤ k by omega)]
    refine ⟨fun h => ?_, fun h1 h2 => ?_⟩
    · have : ¬ (en = true ∧ w.all dirOk = true) := fun h2 => by rw [h2.1, h2.2] at h; cases h
      rw [if_neg this]; exact ⟨rfl, h.symm⟩
    · rw [if_pos ⟨h1, h2⟩, h1, h2, List.take_of_length_le (by simp)]; exact ⟨rfl, rfl⟩
def tb_specParse : List Blk → List AV → Option (List Blk × AV × Prop)
  | [], [.str s] => some ([], .tuple [enc_dirs (dirsS s), .bool (dirsOk s)], (s.length ≤ 100000000) ∧ (∀ e ∈ splitS s, e.length ≤ 1000000))
  | _, _ => none
theorem tb_specParse_ok : ∀ E args E' res p, tb_specParse E args = some (E', res, p) → p → SpecE Try.prog 114 E args E' res := by
  intro E args E' res p h hp
  unfold tb_specParse at h
  split at h
  · simp only [Option.some.injEq, Prod.mk.injEq] at h
    obtain ⟨rfl, rfl, rfl⟩ := h
    exact (specParse _ hp.1 hp.2)
  · cases h

def T_specText : Tbl := fun g E args => (addT (addT (addT nilT 165 Go.Proofs.Try.Cur.tb_specQuote) 164 Go.Proofs.Try.Oct.tb_specToken) 41 Go.Proofs.Try.Lists.tb_specJoin) g E args
theorem T_specText_ok : TblOK Try.prog T_specText := (addT_ok (addT_ok (addT_ok nilT_ok (by decide +kernel) Go.Proofs.Try.Cur.tb_specQuote_ok) (by decide +kernel) Go.Proofs.Try.Oct.tb_specToken_ok) (by decide +kernel) Go.Proofs.Try.Lists.tb_specJoin_ok)
set_option maxRecDepth 100000 in
set_option maxHeartbeats 4000000 in
theorem specText (l : List Dir) (hl : l.length ≤ 2000) (hq : ∀ d ∈ l, d.1.length ≤ 1000000 ∧ d.2.1.length ≤ 1000000) : SpecE Try.prog 116 [] [enc_dirs l] [] (.tuple [.str (dirsText l), .bool (dirsMay l)]) := by
  refine specF0 (C := T_specText) (wr := false) (D := fun _ => []) (U := fun _ => none) (res := [.str (dirsText l), .bool (dirsMay l)]) Try.Ty.mixed T_specText_ok Try.func116 (nA := 1) (by decide +kernel) rfl (fun _ => rfl) ?_
  simp only [Try.f116, bodyOf, rlOf]
  rw [W_V]
  simp (config := {maxSteps := 2000000}) only [T_specText, Go.Proofs.Try.Cur.tb_specQuote, Go.Proofs.Try.Oct.tb_specToken, Go.Proofs.Try.Lists.tb_specJoin, go_sem, reduceIte, Nat.reduceEqDiff, Nat.reduceAdd, Nat.reduceMul, Nat.reduceSub, Nat.reduceBEq, Nat.reduceLT, Nat.reduceLeDiff, reduceCtorEq, Int.reduceNeg, Int.reduceEq, String.reduceEq, Int.reduceLT, Int.reduceLE, Int.reduceToNat, Int.reduceAdd, Int.reduceMul, Int.reduceSub]
  (try simp (config := {maxSteps := 2000000}) only [gimp, impB, isT, go_sem, reduceIte, Nat.reduceEqDiff, Nat.reduceAdd, Nat.reduceMul, Nat.reduceSub, Nat.reduceBEq, Nat.reduceLT, Nat.reduceLeDiff, reduceCtorEq, Int.reduceNeg, Int.reduceEq, String.reduceEq, Int.reduceLT, Int.reduceLE, Int.reduceToNat, Int.reduceAdd, Int.reduceMul, Int.reduceSub])
  refine VL_inv (X := Nat) (fun k => ⟨[(4, .ref 5000 0 (l.take k).length (l.take k).length), (9, enc_dirs l), (10, .int .i64 l.length), (11, .int .i64 k)], [(5000, .cells 1 false (.str []) (((l.take k).map dirText).map .str))]⟩) (fun k => k ≤ l.length ∧ (l.take k).all dirMay = true) (fun k => l.length - k) 0 ?_ ?_ ?_
  · simp only [List.take_zero, List.map_nil, go_sem, go_sem, reduceIte, Nat.reduceEqDiff, Nat.reduceAdd, Nat.reduceMul, Nat.reduceSub, Nat.reduceBEq, Nat.reduceLT, Nat.reduceLeDiff, reduceCtorEq, Int.reduceNeg, Int.reduceEq, String.reduceEq, Int.reduceLT, Int.reduceLE, Int.reduceToNat, Int.reduceAdd, Int.reduceMul, Int.reduceSub]
    try rfl
  · exact ⟨Nat.zero_le _, by simp⟩
  rintro k ⟨hk, hn⟩
  simp (config := {maxSteps := 2000000}) only [T_specText, Go.Proofs.Try.Cur.tb_specQuote, Go.Proofs.Try.Oct.tb_specToken, Go.Proofs.Try.Lists.tb_specJoin, go_sem, reduceIte, Nat.reduceEqDiff, Nat.reduceAdd, Nat.reduceMul, Nat.reduceSub, Nat.reduceBEq, Nat.reduceLT, Nat.reduceLeDiff, reduceCtorEq, Int.reduceNeg, Int.reduceEq, String.reduceEq, Int.reduceLT, Int.reduceLE, Int.reduceToNat, Int.reduceAdd, Int.reduceMul, Int.reduceSub]
  (try simp (config := {maxSteps := 2000000}) only [gimp, impB, isT, go_sem, reduceIte, Nat.reduceEqDiff, Nat.reduceAdd, Nat.reduceMul, Nat.reduceSub, Nat.reduceBEq, Nat.reduceLT, Nat.reduceLeDiff, reduceCtorEq, Int.reduceNeg, Int.reduceEq, String.reduceEq, Int.reduceLT, Int.reduceLE, Int.reduceToNat, Int.reduceAdd, Int.reduceMul, Int.reduceSub])
  have hlk : (l.take k).length ≤ 2000 := by rw [List.length_take]; omega
  have ht := fun h : k < l.length => take_succ_getD (s := l) dir0 h
  have hmem := fun h : k < l.length => List.mem_of_getElem? (getD_of_lt (s := l) (d := dir0) h)
  have hM : dirsMay l = l.all dirMay := rfl
  refine ⟨fun hlt => ?_, fun hge => ?_⟩
  · have h1 := hmem (by omega)
    have h2 := hq _ h1
    have h3 := quoteS_len (l.getD k dir0).2.1
    have ht2 := ht (by omega)
    generalize l.getD k dir0 = d at *
    have hd1 : ∀ x : List UInt8, (x ++ [61]).length = x.length + 1 := fun x => by simp
    have hgo : dirMay d = true → (l.take (k + 1)).all dirMay = true := fun h => by rw [ht2, List.all_append, hn]; simp [h]
    refine ⟨by omega, h2.2, fun hbad => ?_, fun g1 g2 g3 => ⟨fun g4 => ⟨by omega, by rw [hd1]; omega, by omega, by omega, k + 1, ⟨⟨?_, by omega⟩, ?_⟩, ⟨by omega, hgo ?_⟩, by omega⟩, fun g4 => ⟨by omega, by omega, k + 1, ⟨⟨?_, by omega⟩, ?_⟩, ⟨by omega, hgo ?_⟩, by omega⟩⟩⟩
    · have hno : dirMay d = false := by
        rcases hbad with (h | h) | ⟨h, h'⟩
        · simp [dirMay, h]
        · simp [dirMay, h]
        · simp [dirMay, h, h']
      have hno2 : dirsMay l = false := List.all_eq_false.2 ⟨d, h1, by rw [hno]; simp⟩
      rw [dirsText, hno2]; exact ⟨rfl, rfl⟩
    · rw [ht2]; simp
    · rw [ht2]; simp [dirText, g4]
    · simp [dirMay, g1, g2, g4]
    · rw [ht2]; simp
    · rw [ht2]; simp [dirText, g4]
    · have : d.2.1 = [] := by rw [g4] at g3; simpa using g3
      rw [dirMay, g1, g2, g4, decide_eq_true this]; rfl
  · rw [List.take_of_length_le (show l.length ≤ k by omega)] at hn ⊢
    rw [List.take_of_length_le (by simp), join_eq]
    have hj := joinS_len (l := l.map dirText) (m := 3000003) (fun e he => by
      obtain ⟨d, hd, rfl⟩ := List.mem_map.1 he
      have := dirText_len d
      have := hq d hd
      omega)
    rw [List.length_map] at hj
    have := Nat.mul_le_mul hl (Nat.le_refl (3000003 + 2))
    refine ⟨⟨by rw [List.length_map]; omega, by omega⟩, ?_, ?_⟩
    · rw [dirsText, if_pos (show dirsMay l = true from hn)]
    · exact hn.symm
def tb_specText : List Blk → List AV → Option (List Blk × AV × Prop)
  | [], [a0] => some ([], .tuple [.str (dirsText (dec_dirs a0)), .bool (dirsMay (dec_dirs a0))], ((dec_dirs a0).length ≤ 2000) ∧ (∀ d ∈ (dec_dirs a0), d.1.length ≤ 1000000 ∧ d.2.1.length ≤ 1000000) ∧ argOK a0 (enc_dirs (dec_dirs a0)))
  | _, _ => none
theorem tb_specText_ok : ∀ E args E' res p, tb_specText E args = some (E', res, p) → p → SpecE Try.prog 116 E args E' res := by
  intro E args E' res p h hp
  unfold tb_specText at h
  split at h
  · simp only [Option.some.injEq, Prod.mk.injEq] at h
    obtain ⟨rfl, rfl, rfl⟩ := h
    exact SpecE.args (specText _ hp.1 hp.2.1) (.cons hp.2.2 .nil)
  · cases h

def T_specControl : Tbl := fun g E args => (addT (addT nilT 198 Go.Proofs.Try.Hdr.tb_specCombined) 114 Go.Proofs.Try.Cac.tb_specParse) g E args
theorem T_specControl_ok : TblOK Try.prog T_specControl := (addT_ok (addT_ok nilT_ok (by decide +kernel) Go.Proofs.Try.Hdr.tb_specCombined_ok) (by decide +kernel) Go.Proofs.Try.Cac.tb_specParse_ok)
set_option maxRecDepth 100000 in
set_option maxHeartbeats 4000000 in
theorem specControl (l : List Fld) (hl : l.length ≤ 1000) (hq : ∀ f ∈ l, f.2.length ≤ 900) : SpecE Try.prog 104 [] [enc_flds l] [] (enc_dirs (ctlS l)) := by
  refine specF0 (C := T_specControl) (wr := false) (D := fun _ => []) (U := fun _ => none) (res := [enc_dirs (ctlS l)]) Try.Ty.mixed T_specControl_ok Try.func104 (nA := 1) (by decide +kernel) rfl (fun _ => rfl) ?_
  simp only [Try.f104, bodyOf, rlOf]
  rw [W_V]
  simp (config := {maxSteps := 2000000}) only [T_specControl, Go.Proofs.Try.Hdr.tb_specCombined, Go.Proofs.Try.Cac.tb_specParse, go_sem, reduceIte, Nat.reduceEqDiff, Nat.reduceAdd, Nat.reduceMul, Nat.reduceSub, Nat.reduceBEq, Nat.reduceLT, Nat.reduceLeDiff, reduceCtorEq, Int.reduceNeg, Int.reduceEq, String.reduceEq, Int.reduceLT, Int.reduceLE, Int.reduceToNat, Int.reduceAdd, Int.reduceMul, Int.reduceSub]
  (try simp (config := {maxSteps := 2000000}) only [gimp, impB, isT, go_sem, reduceIte, Nat.reduceEqDiff, Nat.reduceAdd, Nat.reduceMul, Nat.reduceSub, Nat.reduceBEq, Nat.reduceLT, Nat.reduceLeDiff, reduceCtorEq, Int.reduceNeg, Int.reduceEq, String.reduceEq, Int.reduceLT, Int.reduceLE, Int.reduceToNat, Int.reduceAdd, Int.reduceMul, Int.reduceSub])
  have h1 := comb_len3 nmCC hl hq
  exact ⟨⟨hl, by decide, fun f h => by have := hq f h; omega⟩, ⟨by have : (combS l [67, 97, 99, 104, 101, 45, 67, 111, 110, 116, 114, 111, 108]).length ≤ 902000 := h1; omega, fun e he => by have := (splitS_mem (s := combS l nmCC) he).1; omega⟩, rfl⟩
def tb_specControl : List Blk → List AV → Option (List Blk × AV × Prop)
  | [], [a0] => some ([], enc_dirs (ctlS (dec_flds a0)), ((dec_flds a0).length ≤ 1000) ∧ (∀ f ∈ (dec_flds a0), f.2.length ≤ 900) ∧ argOK a0 (enc_flds (dec_flds a0)))
  | _, _ => none
theorem tb_specControl_ok : ∀ E args E' res p, tb_specControl E args = some (E', res, p) → p → SpecE Try.prog 104 E args E' res := by
  intro E args E' res p h hp
  unfold tb_specControl at h
  split at h
  · simp only [Option.some.injEq, Prod.mk.injEq] at h
    obtain ⟨rfl, rfl, rfl⟩ := h
    exact SpecE.args (specControl _ hp.1 hp.2.1) (.cons hp.2.2 .nil)
  · cases h

def T_specFindP : Tbl := fun g E args => nilT g E args
theorem T_specFindP_ok : TblOK Try.prog T_specFindP := nilT_ok
set_option maxRecDepth 100000 in
set_option maxHeartbeats 4000000 in
theorem specFindP (n v : List UInt8) (b : Bool) (w : List UInt8) : SpecE Try.prog 273 [.cells 1 false (.str []) [.str w]] [.agg [.str n, .str v, .bool b], .ptr 0 0 0 1] [.cells 1 false (.str []) [.str w]] (.bool (decide (n = w))) := by
  refine specFE (C := T_specFindP) (wr := false) (D := fun _ => []) (U := fun _ => none) (E := [.cells 1 false (.str []) [.str w]]) (E' := [.cells 1 false (.str []) [.str w]]) (res := [.bool (decide (n = w))]) [] Try.Ty.mixed T_specFindP_ok Try.func273 (nE := 1) (nA := 2) (by decide +kernel) rfl rfl ?_
  simp only [Try.f273, bodyOf, rlOf]
  rw [W_V]
  simp (config := {maxSteps := 2000000}) only [T_specFindP, go_sem, reduceIte, Nat.reduceEqDiff, Nat.reduceAdd, Nat.reduceMul, Nat.reduceSub, Nat.reduceBEq, Nat.reduceLT, Nat.reduceLeDiff, reduceCtorEq, Int.reduceNeg, Int.reduceEq, String.reduceEq, Int.reduceLT, Int.reduceLE, Int.reduceToNat, Int.reduceAdd, Int.reduceMul, Int.reduceSub]
  (try simp (config := {maxSteps := 2000000}) only [gimp, impB, isT, go_sem, reduceIte, Nat.reduceEqDiff, Nat.reduceAdd, Nat.reduceMul, Nat.reduceSub, Nat.reduceBEq, Nat.reduceLT, Nat.reduceLeDiff, reduceCtorEq, Int.reduceNeg, Int.reduceEq, String.reduceEq, Int.reduceLT, Int.reduceLE, Int.reduceToNat, Int.reduceAdd, Int.reduceMul, Int.reduceSub])
def tb_specFindP : List Blk → List AV → Option (List Blk × AV × Prop)
  | [.cells 1 false d [.str w]], [.agg [.str n, .str v, .bool b], .ptr 0 0 0 1] => some ([.cells 1 false (.str []) [.str w]], .bool (decide (n = w)), (d = .str []))
  | _, _ => none
theorem tb_specFindP_ok : ∀ E args E' res p, tb_specFindP E args = some (E', res, p) → p → SpecE Try.prog 273 E args E' res := by
  intro E args E' res p h hp
  unfold tb_specFindP at h
  split at h
  · simp only [Option.some.injEq, Prod.mk.injEq] at h
    obtain ⟨rfl, rfl, rfl⟩ := h
    obtain rfl := hp
    exact (specFindP _ _ _ _)
  · cases h

def T_specFindI : Tbl := fun g E args => nilT g E args
theorem T_specFindI_ok : TblOK Try.prog T_specFindI := nilT_ok
set_option maxRecDepth 100000 in
set_option maxHeartbeats 4000000 in
theorem specFindI (l : List Dir) (w : List UInt8) (hl : l.length ≤ maxLen) : SpecE Try.prog 272 [.cells 1 false (.str []) [.str w]] [enc_dirs l, .clo 273 0 [.ptr 0 0 0 1]] [.cells 1 false (.str []) [.str w]] (.int .i64 (idxP (fun d => decide (d.1 = w)) l)) := by
  exact SlcD.idx_D (by decide) (boxStr w) (fun _ => rfl) (p := fun d => decide (d.1 = w)) (q := fun _ => True) (fun x _ => specFindP x.1 x.2.1 x.2.2 w) l (fun _ _ => trivial) hl
def tb_specFindI : List Blk → List AV → Option (List Blk × AV × Prop)
  | [.cells 1 false d [.str w]], [a0, .clo 273 0 [.ptr 0 0 0 1]] => some ([.cells 1 false (.str []) [.str w]], .int .i64 (idxP (fun d => decide (d.1 = w)) (dec_dirs a0)), (d = .str []) ∧ ((dec_dirs a0).length ≤ maxLen) ∧ argOK a0 (enc_dirs (dec_dirs a0)))
  | _, _ => none
theorem tb_specFindI_ok : ∀ E args E' res p, tb_specFindI E args = some (E', res, p) → p → SpecE Try.prog 272 E args E' res := by
  intro E args E' res p h hp
  unfold tb_specFindI at h
  split at h
  · simp only [Option.some.injEq, Prod.mk.injEq] at h
    obtain ⟨rfl, rfl, rfl⟩ := h
    obtain ⟨rfl, hp⟩ := hp
    exact SpecE.args (specFindI _ _ hp.1) (.cons hp.2 (.cons (argOK.refl _) .nil))
  · cases h

def T_specFind : Tbl := fun g E args => (addT (addT nilT 152 Go.Proofs.Try.Oct.tb_specLower) 272 Go.Proofs.Try.Cac.tb_specFindI) g E args
theorem T_specFind_ok : TblOK Try.prog T_specFind := (addT_ok (addT_ok nilT_ok (by decide +kernel) Go.Proofs.Try.Oct.tb_specLower_ok) (by decide +kernel) Go.Proofs.Try.Cac.tb_specFindI_ok)
set_option maxRecDepth 100000 in
set_option maxHeartbeats 4000000 in
theorem specFind (l : List Dir) (n : List UInt8) (hl : l.length ≤ maxLen) (hn : n.length ≤ maxLen) : SpecE Try.prog 202 [] [enc_dirs l, .str n] [] (.int .i64 (idxP (dirIs n) l)) := by
  refine specF0 (C := T_specFind) (wr := false) (D := fun _ => []) (U := fun _ => none) (res := [.int .i64 (idxP (dirIs n) l)]) Try.Ty.mixed T_specFind_ok Try.func202 (nA := 2) (by decide +kernel) rfl (fun _ => rfl) ?_
  simp only [Try.f202, bodyOf, rlOf]
  rw [W_V]
  simp (config := {maxSteps := 2000000}) only [T_specFind, Go.Proofs.Try.Oct.tb_specLower, Go.Proofs.Try.Cac.tb_specFindI, go_sem, reduceIte, Nat.reduceEqDiff, Nat.reduceAdd, Nat.reduceMul, Nat.reduceSub, Nat.reduceBEq, Nat.reduceLT, Nat.reduceLeDiff, reduceCtorEq, Int.reduceNeg, Int.reduceEq, String.reduceEq, Int.reduceLT, Int.reduceLE, Int.reduceToNat, Int.reduceAdd, Int.reduceMul, Int.reduceSub]
  (try simp (config := {maxSteps := 2000000}) only [gimp, impB, isT, go_sem, reduceIte, Nat.reduceEqDiff, Nat.reduceAdd, Nat.reduceMul, Nat.reduceSub, Nat.reduceBEq, Nat.reduceLT, Nat.reduceLeDiff, reduceCtorEq, Int.reduceNeg, Int.reduceEq, String.reduceEq, Int.reduceLT, Int.reduceLE, Int.reduceToNat, Int.reduceAdd, Int.reduceMul, Int.reduceSub])
  exact ⟨hn, hl, rfl⟩
def tb_specFind : List Blk → List AV → Option (List Blk × AV × Prop)
  | [], [a0, .str n] => some ([], .int .i64 (idxP (dirIs n) (dec_dirs a0)), ((dec_dirs a0).length ≤ maxLen) ∧ (n.length ≤ maxLen) ∧ argOK a0 (enc_dirs (dec_dirs a0)))
  | _, _ => none
theorem tb_specFind_ok : ∀ E args E' res p, tb_specFind E args = some (E', res, p) → p → SpecE Try.prog 202 E args E' res := by
  intro E args E' res p h hp
  unfold tb_specFind at h
  split at h
  · simp only [Option.some.injEq, Prod.mk.injEq] at h
    obtain ⟨rfl, rfl, rfl⟩ := h
    exact SpecE.args (specFind _ _ hp.1 hp.2.1) (.cons hp.2.2 (.cons (argOK.refl _) .nil))
  · cases h

def T_specHas : Tbl := fun g E args => (addT (addT nilT 104 Go.Proofs.Try.Cac.tb_specControl) 202 Go.Proofs.Try.Cac.tb_specFind) g E args
theorem T_specHas_ok : TblOK Try.prog T_specHas := (addT_ok (addT_ok nilT_ok (by decide +kernel) Go.Proofs.Try.Cac.tb_specControl_ok) (by decide +kernel) Go.Proofs.Try.Cac.tb_specFind_ok)
set_option maxRecDepth 100000 in
set_option maxHeartbeats 4000000 in
theorem specHas (l : List Fld) (n : List UInt8) (hl : l.length ≤ 1000) (hq : ∀ f ∈ l, f.2.length ≤ 900) (hn : n.length ≤ maxLen) : SpecE Try.prog 106 [] [enc_flds l, .str n] [] (.bool (ctlHas l n)) := by
  refine specF0 (C := T_specHas) (wr := false) (D := fun _ => []) (U := fun _ => none) (res := [.bool (ctlHas l n)]) Try.Ty.mixed T_specHas_ok Try.func106 (nA := 2) (by decide +kernel) rfl (fun _ => rfl) ?_
  simp only [Try.f106, bodyOf, rlOf]
  rw [W_V]
  simp (config := {maxSteps := 2000000}) only [T_specHas, Go.Proofs.Try.Cac.tb_specControl, Go.Proofs.Try.Cac.tb_specFind, go_sem, reduceIte, Nat.reduceEqDiff, Nat.reduceAdd, Nat.reduceMul, Nat.reduceSub, Nat.reduceBEq, Nat.reduceLT, Nat.reduceLeDiff, reduceCtorEq, Int.reduceNeg, Int.reduceEq, String.reduceEq, Int.reduceLT, Int.reduceLE, Int.reduceToNat, Int.reduceAdd, Int.reduceMul, Int.reduceSub]
  (try simp (config := {maxSteps := 2000000}) only [gimp, impB, isT, go_sem, reduceIte, Nat.reduceEqDiff, Nat.reduceAdd, Nat.reduceMul, Nat.reduceSub, Nat.reduceBEq, Nat.reduceLT, Nat.reduceLeDiff, reduceCtorEq, Int.reduceNeg, Int.reduceEq, String.reduceEq, Int.reduceLT, Int.reduceLE, Int.reduceToNat, Int.reduceAdd, Int.reduceMul, Int.reduceSub])
  have hcnt : (ctlS l).length ≤ maxLen := by
    have h1 := comb_len3 nmCC hl hq
    have h2 := dirsS_count (combS l nmCC)
    have hm : (902001 : Nat) ≤ maxLen := by decide
    unfold ctlS; omega
  refine ⟨⟨hl, hq⟩, ⟨hcnt, hn⟩, ?_⟩
  rw [Bool.eq_iff_iff, decide_eq_true_eq, idxP_ge]; rfl
def tb_specHas : List Blk → List AV → Option (List Blk × AV × Prop)
  | [], [a0, .str n] => some ([], .bool (ctlHas (dec_flds a0) n), ((dec_flds a0).length ≤ 1000) ∧ (∀ f ∈ (dec_flds a0), f.2.length ≤ 900) ∧ (n.length ≤ maxLen) ∧ argOK a0 (enc_flds (dec_flds a0)))
  | _, _ => none
theorem tb_specHas_ok : ∀ E args E' res p, tb_specHas E args = some (E', res, p) → p → SpecE Try.prog 106 E args E' res := by
  intro E args E' res p h hp
  unfold tb_specHas at h
  split at h
  · simp only [Option.some.injEq, Prod.mk.injEq] at h
    obtain ⟨rfl, rfl, rfl⟩ := h
    exact SpecE.args (specHas _ _ hp.1 hp.2.1 hp.2.2.1) (.cons hp.2.2.2 (.cons (argOK.refl _) .nil))
  · cases h

def T_specAge : Tbl := fun g E args => (addT (addT (addT nilT 104 Go.Proofs.Try.Cac.tb_specControl) 202 Go.Proofs.Try.Cac.tb_specFind) 58 Go.Proofs.Try.Dig.tb_specDec) g E args
theorem T_specAge_ok : TblOK Try.prog T_specAge := (addT_ok (addT_ok (addT_ok nilT_ok (by decide +kernel) Go.Proofs.Try.Cac.tb_specControl_ok) (by decide +kernel) Go.Proofs.Try.Cac.tb_specFind_ok) (by decide +kernel) Go.Proofs.Try.Dig.tb_specDec_ok)
set_option maxRecDepth 100000 in
set_option maxHeartbeats 4000000 in
theorem specAge (l : List Fld) (hl : l.length ≤ 1000) (hq : ∀ f ∈ l, f.2.length ≤ 900) : SpecE Try.prog 100 [] [enc_flds l] [] (.tuple [.int .i64 (ageN l), .bool (ageOk l)]) := by
  refine specF0 (C := T_specAge) (wr := false) (D := fun _ => []) (U := fun _ => none) (res := [.int .i64 (ageN l), .bool (ageOk l)]) Try.Ty.mixed T_specAge_ok Try.func100 (nA := 1) (by decide +kernel) rfl (fun _ => rfl) ?_
  simp only [Try.f100, bodyOf, rlOf]
  rw [W_V]
  simp (config := {maxSteps := 2000000}) only [T_specAge, Go.Proofs.Try.Cac.tb_specControl, Go.Proofs.Try.Cac.tb_specFind, Go.Proofs.Try.Dig.tb_specDec, go_sem, reduceIte, Nat.reduceEqDiff, Nat.reduceAdd, Nat.reduceMul, Nat.reduceSub, Nat.reduceBEq, Nat.reduceLT, Nat.reduceLeDiff, reduceCtorEq, Int.reduceNeg, Int.reduceEq, String.reduceEq, Int.reduceLT, Int.reduceLE, Int.reduceToNat, Int.reduceAdd, Int.reduceMul, Int.reduceSub]
  (try simp (config := {maxSteps := 2000000}) only [gimp, impB, isT, go_sem, reduceIte, Nat.reduceEqDiff, Nat.reduceAdd, Nat.reduceMul, Nat.reduceSub, Nat.reduceBEq, Nat.reduceLT, Nat.reduceLeDiff, reduceCtorEq, Int.reduceNeg, Int.reduceEq, String.reduceEq, Int.reduceLT, Int.reduceLE, Int.reduceToNat, Int.reduceAdd, Int.reduceMul, Int.reduceSub])
  have hcnt : (ctlS l).length ≤ maxLen := by
    have h1 := comb_len3 nmCC hl hq
    have h2 := dirsS_count (combS l nmCC)
    have hm : (902001 : Nat) ≤ maxLen := by decide
    unfold ctlS; omega
  have hW : [109, 97, 120, 45, 97, 103, 101] = wdAge := rfl
  rw [hW]
  have hge := idxP_ge (dirIs wdAge) (ctlS l)
  have hH : ctlHas l wdAge = (ctlS l).any (dirIs wdAge) := rfl
  refine ⟨⟨hl, hq⟩, ⟨hcnt, by decide⟩, fun h => ?_, fun h => ?_⟩
  · have hno : ctlHas l wdAge = false := by
      rw [hH, ← Bool.not_eq_true, ← hge]; omega
    simp [ageN, ageOk, hno]
  · have hyes : (ctlS l).any (dirIs wdAge) = true := hge.1 h
    have hi : idxP (dirIs wdAge) (ctlS l) = (((ctlS l).findIdx (dirIs wdAge) : Nat) : Int) := by unfold idxP; rw [if_pos hyes]
    have hx : (ctlS l).findIdx (dirIs wdAge) < (ctlS l).length := List.findIdx_lt_length.2 (List.any_eq_true.1 hyes)
    rw [hi, Int.toNat_natCast]
    have hV : ((ctlS l).getD ((ctlS l).findIdx (dirIs wdAge)) dir0).2.1 = ageV l := rfl
    rw [hV, ageN, ageOk, hH, hyes, if_pos rfl]
    refine ⟨by omega, fun h5 => ?_, fun h5 => ?_⟩
    · rw [if_pos h5, h5]; exact ⟨rfl, rfl⟩
    · rw [if_neg h5, decide_eq_false h5]; exact ⟨rfl, rfl⟩
def tb_specAge : List Blk → List AV → Option (List Blk × AV × Prop)
  | [], [a0] => some ([], .tuple [.int .i64 (ageN (dec_flds a0)), .bool (ageOk (dec_flds a0))], ((dec_flds a0).length ≤ 1000) ∧ (∀ f ∈ (dec_flds a0), f.2.length ≤ 900) ∧ argOK a0 (enc_flds (dec_flds a0)))
  | _, _ => none
theorem tb_specAge_ok : ∀ E args E' res p, tb_specAge E args = some (E', res, p) → p → SpecE Try.prog 100 E args E' res := by
  intro E args E' res p h hp
  unfold tb_specAge at h
  split at h
  · simp only [Option.some.injEq, Prod.mk.injEq] at h
    obtain ⟨rfl, rfl, rfl⟩ := h
    exact SpecE.args (specAge _ hp.1 hp.2.1) (.cons hp.2.2 .nil)
  · cases h

def T_specPragma : Tbl := fun g E args => (addT (addT nilT 198 Go.Proofs.Try.Hdr.tb_specCombined) 38 Go.Proofs.Try.Lists.tb_specHas) g E args
theorem T_specPragma_ok : TblOK Try.prog T_specPragma := (addT_ok (addT_ok nilT_ok (by decide +kernel) Go.Proofs.Try.Hdr.tb_specCombined_ok) (by decide +kernel) Go.Proofs.Try.Lists.tb_specHas_ok)
set_option maxRecDepth 100000 in
set_option maxHeartbeats 4000000 in
theorem specPragma (l : List Fld) (hl : l.length ≤ 1000) (hq : ∀ f ∈ l, f.2.length ≤ 900) : SpecE Try.prog 107 [] [enc_flds l] [] (.bool (pragS l)) := by
  refine specF0 (C := T_specPragma) (wr := false) (D := fun _ => []) (U := fun _ => none) (res := [.bool (pragS l)]) Try.Ty.mixed T_specPragma_ok Try.func107 (nA := 1) (by decide +kernel) rfl (fun _ => rfl) ?_
  simp only [Try.f107, bodyOf, rlOf]
  rw [W_V]
  simp (config := {maxSteps := 2000000}) only [T_specPragma, Go.Proofs.Try.Hdr.tb_specCombined, Go.Proofs.Try.Lists.tb_specHas, go_sem, reduceIte, Nat.reduceEqDiff, Nat.reduceAdd, Nat.reduceMul, Nat.reduceSub, Nat.reduceBEq, Nat.reduceLT, Nat.reduceLeDiff, reduceCtorEq, Int.reduceNeg, Int.reduceEq, String.reduceEq, Int.reduceLT, Int.reduceLE, Int.reduceToNat, Int.reduceAdd, Int.reduceMul, Int.reduceSub]
  (try simp (config := {maxSteps := 2000000}) only [gimp, impB, isT, go_sem, reduceIte, Nat.reduceEqDiff, Nat.reduceAdd, Nat.reduceMul, Nat.reduceSub, Nat.reduceBEq, Nat.reduceLT, Nat.reduceLeDiff, reduceCtorEq, Int.reduceNeg, Int.reduceEq, String.reduceEq, Int.reduceLT, Int.reduceLE, Int.reduceToNat, Int.reduceAdd, Int.reduceMul, Int.reduceSub])
  have h1 := comb_len3 [80, 114, 97, 103, 109, 97] hl hq
  exact ⟨⟨hl, by decide, fun f h => by have := hq f h; omega⟩, by omega, rfl⟩
def tb_specPragma : List Blk → List AV → Option (List Blk × AV × Prop)
  | [], [a0] => some ([], .bool (pragS (dec_flds a0)), ((dec_flds a0).length ≤ 1000) ∧ (∀ f ∈ (dec_flds a0), f.2.length ≤ 900) ∧ argOK a0 (enc_flds (dec_flds a0)))
  | _, _ => none
theorem tb_specPragma_ok : ∀ E args E' res p, tb_specPragma E args = some (E', res, p) → p → SpecE Try.prog 107 E args E' res := by
  intro E args E' res p h hp
  unfold tb_specPragma at h
  split at h
  · simp only [Option.some.injEq, Prod.mk.injEq] at h
    obtain ⟨rfl, rfl, rfl⟩ := h
    exact SpecE.args (specPragma _ hp.1 hp.2.1) (.cons hp.2.2 .nil)
  · cases h
end Go.Proofs.Try.Cac
