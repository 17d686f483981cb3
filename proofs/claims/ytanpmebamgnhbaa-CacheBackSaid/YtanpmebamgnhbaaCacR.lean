/- cache: the walks of the document's answer, and of the statements. No condition beyond those that a machine's numbers bring. -/
import Derived.Test.YtanpmebamgnhbaaCac
import Derived.Test.YtanpmebamgnhbaaListsR
set_option linter.unusedVariables false
set_option linter.unusedSimpArgs false
namespace Go.Mdl
open Go Go.Abs
def refD (s : List UInt8) : Dir := if dirN s = 0 then ([], [], false) else dirS s
theorem ctl_any (l : List Fld) (n : List UInt8) : (ctlS l).any (dirIs n) = ctlHas l n := rfl
end Go.Mdl
namespace Go.Proofs.Try.CacR
open Go Go.Abs Go.Proofs Go.Mdl

def T_specOneR : Tbl := fun g E args => (addT (addT (addT nilT 162 Go.Proofs.Try.Cur.tb_specTokenR) 258 Go.Proofs.Try.Cur.tb_specQuotedR) 50 Go.Proofs.Try.Oct.tb_specLowerR) g E args
theorem T_specOneR_ok : TblOK Try.prog T_specOneR := (addT_ok (addT_ok (addT_ok nilT_ok (by decide +kernel) Go.Proofs.Try.Cur.tb_specTokenR_ok) (by decide +kernel) Go.Proofs.Try.Cur.tb_specQuotedR_ok) (by decide +kernel) Go.Proofs.Try.Oct.tb_specLowerR_ok)
set_option maxRecDepth 100000 in
set_option maxHeartbeats 4000000 in
theorem specOneR (s : List UInt8) (hs : s.length ≤ 1000000) : SpecE Try.prog 209 [] [.str s] [] (.tuple [.agg [.str (refD s).1, .str (refD s).2.1, .bool (refD s).2.2], .bool (dirOk s)]) := by
  refine specF0 (C := T_specOneR) (wr := false) (D := fun _ => []) (U := fun _ => none) (res := [.agg [.str (refD s).1, .str (refD s).2.1, .bool (refD s).2.2], .bool (dirOk s)]) Try.Ty.mixed T_specOneR_ok Try.func209 (nA := 1) (by decide +kernel) rfl (fun _ => rfl) ?_
  simp only [Try.f209, bodyOf, rlOf]
  rw [W_V]
  simp (config := {maxSteps := 2000000}) only [T_specOneR, Go.Proofs.Try.Cur.tb_specTokenR, Go.Proofs.Try.Cur.tb_specQuotedR, Go.Proofs.Try.Oct.tb_specLowerR, go_sem, reduceIte, Nat.reduceEqDiff, Nat.reduceAdd, Nat.reduceMul, Nat.reduceSub, Nat.reduceBEq, Nat.reduceLT, Nat.reduceLeDiff, reduceCtorEq, Int.reduceNeg, Int.reduceEq, String.reduceEq, Int.reduceLT, Int.reduceLE, Int.reduceToNat, Int.reduceAdd, Int.reduceMul, Int.reduceSub]
  (try simp (config := {maxSteps := 2000000}) only [gimp, impB, isT, go_sem, reduceIte, Nat.reduceEqDiff, Nat.reduceAdd, Nat.reduceMul, Nat.reduceSub, Nat.reduceBEq, Nat.reduceLT, Nat.reduceLeDiff, reduceCtorEq, Int.reduceNeg, Int.reduceEq, String.reduceEq, Int.reduceLT, Int.reduceLE, Int.reduceToNat, Int.reduceAdd, Int.reduceMul, Int.reduceSub])
  have hN : spanL tcharB s = dirN s := rfl
  have hnl := dirN_le s
  have htl : (s.take (dirN s)).length ≤ 1000000 := by rw [List.length_take]; omega
  have hlow : dirN s = 0 → lowerS (s.take (dirN s)) = [] := fun h => by rw [h]; rfl
  have hsetiff : dirSet s = true ↔ (dirN s < s.length ∧ s.getD (dirN s) 0 = 61) := by
    simp only [dirSet, decide_eq_true_eq, Cur.head_iff]
    have hd : (s.drop (dirN s)).getD 0 0 = s.getD (dirN s) 0 := drop_getD0
    rw [hd]
    constructor
    · rintro ⟨h1, h2⟩
      have := List.length_pos_iff.2 h1
      rw [List.length_drop] at this
      exact ⟨by omega, h2⟩
    · rintro ⟨h1, h2⟩
      exact ⟨List.length_pos_iff.1 (by rw [List.length_drop]; omega), h2⟩
  have hR : s.drop (dirN s + 1) = dirR s := rfl
  have hRl : (dirR s).length = s.length - (dirN s + 1) := by simp [dirR]
  rw [hN, hR]
  have hoff : dirSet s = false → dirS s = (lowerS (s.take (dirN s)), [], false) := fun h => by simp [dirS, dirV, h]
  have hoffk : dirSet s = false → dirOk s = (!decide (dirN s = 0) && decide (s.drop (dirN s) = [])) := fun h => by simp [dirOk, dirQ, dirEnd, h]
  refine ⟨hs, by omega, htl, fun h => ?_, fun h1 h2 => ⟨by omega, fun h3 => ?_, fun h3 => ?_⟩⟩
  · by_cases h0 : dirN s = 0
    · have hok : dirOk s = false := by simp [dirOk, h0]
      refine ⟨?_, ?_⟩
      · rw [refD, if_pos h0, hlow h0]
      · rw [hok, decide_eq_false_iff_not]; omega
    · have hlen : dirN s = s.length := by omega
      have hs0 : dirSet s = false := by rw [← Bool.not_eq_true, hsetiff]; omega
      refine ⟨?_, ?_⟩
      · rw [refD, if_neg h0, hoff hs0]
      · have e : s.drop (dirN s) = [] := List.drop_eq_nil_of_le (by omega)
        have hp : decide (0 < (dirN s : Int)) = true := by rw [decide_eq_true_eq]; omega
        rw [hoffk hs0, hp, decide_eq_false h0, decide_eq_true e]; rfl
  · have h0 : ¬ dirN s = 0 := by omega
    have hs0 : dirSet s = false := by rw [← Bool.not_eq_true, hsetiff]; exact fun h => h3 h.2
    refine ⟨?_, ?_⟩
    · rw [refD, if_neg h0, hoff hs0]
    · have e : s.drop (dirN s) ≠ [] := List.length_pos_iff.1 (by rw [List.length_drop]; omega)
      rw [hoffk hs0, decide_eq_false e, Bool.and_false]
  · have h0 : ¬ dirN s = 0 := by omega
    have hs1 : dirSet s = true := hsetiff.2 ⟨by omega, h3⟩
    have hk := spanL_le tcharB (dirR s)
    have hql := qLen_le (dirR s)
    have hS : dirS s = (lowerS (s.take (dirN s)), dirV s, true) := by simp [dirS, hs1]
    have hV : dirV s = if spanL tcharB (dirR s) = 0 then qText (dirR s) else (dirR s).take (spanL tcharB (dirR s)) := by rw [dirV, if_pos hs1]
    have hO : dirOk s = ((if spanL tcharB (dirR s) = 0 then qHas (dirR s) else true) && (!decide (dirN s = 0) && decide (s.drop (dirN s + 1 + (if spanL tcharB (dirR s) = 0 then qLen (dirR s) else spanL tcharB (dirR s))) = []))) := by
      simp only [dirOk, dirQ, dirEnd, hs1, if_true]
    have hdn : ∀ k, k ≤ (dirR s).length → (s.drop (dirN s + 1 + k) = [] ↔ (k : Int) = ((dirR s).length : Int)) := fun k hk2 => by
      rw [List.drop_eq_nil_iff, hRl]; omega
    rw [refD, if_neg h0, hS, hV, hO]
    have hqh := qHas_len (dirR s)
    generalize spanL tcharB (dirR s) = k at *
    refine ⟨by omega, by omega, by omega, by omega, fun h4 => ?_, fun h4 => ⟨by omega, ?_, ?_⟩⟩
    · have hk0 : ¬ k = 0 := by omega
      refine ⟨by simp [hk0], ?_⟩
      rw [if_neg hk0, if_neg hk0, decide_eq_false h0]
      simp only [Bool.not_false, Bool.true_and]
      rw [Bool.eq_iff_iff, decide_eq_true_eq, decide_eq_true_eq, hdn k hk]
    · have hk0 : k = 0 := by omega
      simp [hk0]
    · have hk0 : k = 0 := by omega
      rw [if_pos hk0, if_pos hk0, decide_eq_false h0, hqh]
      simp only [Bool.not_false, Bool.true_and]
      congr 1
      rw [Bool.eq_iff_iff, decide_eq_true_eq, decide_eq_true_eq, hdn _ hql]
def tb_specOneR : List Blk → List AV → Option (List Blk × AV × Prop)
  | [], [.str s] => some ([], .tuple [.agg [.str (refD s).1, .str (refD s).2.1, .bool (refD s).2.2], .bool (dirOk s)], (s.length ≤ 1000000))
  | _, _ => none
theorem tb_specOneR_ok : ∀ E args E' res p, tb_specOneR E args = some (E', res, p) → p → SpecE Try.prog 209 E args E' res := by
  intro E args E' res p h hp
  unfold tb_specOneR at h
  split at h
  · simp only [Option.some.injEq, Prod.mk.injEq] at h
    obtain ⟨rfl, rfl, rfl⟩ := h
    exact (specOneR _ hp)
  · cases h

def T_specParseR : Tbl := fun g E args => (addT (addT nilT 36 Go.Proofs.Try.Lists.tb_specSplitR) 209 Go.Proofs.Try.CacR.tb_specOneR) g E args
theorem T_specParseR_ok : TblOK Try.prog T_specParseR := (addT_ok (addT_ok nilT_ok (by decide +kernel) Go.Proofs.Try.Lists.tb_specSplitR_ok) (by decide +kernel) Go.Proofs.Try.CacR.tb_specOneR_ok)
set_option maxRecDepth 100000 in
set_option maxHeartbeats 4000000 in
theorem specParseR (s : List UInt8) (hs : s.length ≤ 1000000) : SpecE Try.prog 115 [] [.str s] [] (.tuple [enc_dirs (dirsS s), .bool (dirsOk s)]) := by
  refine specF0 (C := T_specParseR) (wr := false) (D := fun _ => []) (U := fun _ => none) (res := [enc_dirs (dirsS s), .bool (dirsOk s)]) Try.Ty.mixed T_specParseR_ok Try.func115 (nA := 1) (by decide +kernel) rfl (fun _ => rfl) ?_
  simp only [Try.f115, bodyOf, rlOf]
  rw [W_V]
  simp (config := {maxSteps := 2000000}) only [T_specParseR, Go.Proofs.Try.Lists.tb_specSplitR, Go.Proofs.Try.CacR.tb_specOneR, go_sem, reduceIte, Nat.reduceEqDiff, Nat.reduceAdd, Nat.reduceMul, Nat.reduceSub, Nat.reduceBEq, Nat.reduceLT, Nat.reduceLeDiff, reduceCtorEq, Int.reduceNeg, Int.reduceEq, String.reduceEq, Int.reduceLT, Int.reduceLE, Int.reduceToNat, Int.reduceAdd, Int.reduceMul, Int.reduceSub]
  (try simp (config := {maxSteps := 2000000}) only [gimp, impB, isT, go_sem, reduceIte, Nat.reduceEqDiff, Nat.reduceAdd, Nat.reduceMul, Nat.reduceSub, Nat.reduceBEq, Nat.reduceLT, Nat.reduceLeDiff, reduceCtorEq, Int.reduceNeg, Int.reduceEq, String.reduceEq, Int.reduceLT, Int.reduceLE, Int.reduceToNat, Int.reduceAdd, Int.reduceMul, Int.reduceSub])
  have hcnt := splitS_count s
  have hsm : ∀ e ∈ splitS s, e.length ≤ 1000000 := fun e he => by have := (splitS_mem he).1; omega
  have hO : dirsOk s = (endsS s && (splitS s).all dirOk) := rfl
  have hS : dirsS s = if dirsOk s = true then (splitS s).map dirS else [] := rfl
  have hnil : endsS s = false → splitS s = [] := fun h => by simp [splitS, h]
  refine ⟨by omega, ?_⟩
  rw [hO] at hS
  rw [hO, hS]
  generalize endsS s = en at *
  generalize splitS s = w at *
  refine VL_inv (X := Nat) (fun k => ⟨[(4, enc_strs w), (5, .bool en), (6, .ref 256 0 (w.take k).length (w.take k).length), (7, .int .i64 k)], [(256, .cells 3 false (.agg [.str [], .str [], .bool false]) (((w.take k).map dirS).map enc_dir))]⟩) (fun k => k ≤ w.length ∧ (w.take k).all dirOk = true) (fun k => w.length - k) 0 ?_ ?_ ?_
  · simp only [List.take_zero, List.map_nil, go_sem, go_sem, reduceIte, Nat.reduceEqDiff, Nat.reduceAdd, Nat.reduceMul, Nat.reduceSub, Nat.reduceBEq, Nat.reduceLT, Nat.reduceLeDiff, reduceCtorEq, Int.reduceNeg, Int.reduceEq, String.reduceEq, Int.reduceLT, Int.reduceLE, Int.reduceToNat, Int.reduceAdd, Int.reduceMul, Int.reduceSub]
    try rfl
  · exact ⟨Nat.zero_le _, by simp⟩
  rintro k ⟨hk, hn⟩
  simp (config := {maxSteps := 2000000}) only [T_specParseR, Go.Proofs.Try.Lists.tb_specSplitR, Go.Proofs.Try.CacR.tb_specOneR, go_sem, reduceIte, Nat.reduceEqDiff, Nat.reduceAdd, Nat.reduceMul, Nat.reduceSub, Nat.reduceBEq, Nat.reduceLT, Nat.reduceLeDiff, reduceCtorEq, Int.reduceNeg, Int.reduceEq, String.reduceEq, Int.reduceLT, Int.reduceLE, Int.reduceToNat, Int.reduceAdd, Int.reduceMul, Int.reduceSub]
  (try simp (config := {maxSteps := 2000000}) only [gimp, impB, isT, go_sem, reduceIte, Nat.reduceEqDiff, Nat.reduceAdd, Nat.reduceMul, Nat.reduceSub, Nat.reduceBEq, Nat.reduceLT, Nat.reduceLeDiff, reduceCtorEq, Int.reduceNeg, Int.reduceEq, String.reduceEq, Int.reduceLT, Int.reduceLE, Int.reduceToNat, Int.reduceAdd, Int.reduceMul, Int.reduceSub])
  have hlk : (w.take k).length ≤ k := by rw [List.length_take]; omega
  have ht := fun h : k < w.length => take_succ_getD (s := w) [] h
  have hmem := fun h : k < w.length => List.mem_of_getElem? (getD_of_lt (s := w) (d := []) h)
  refine ⟨fun hlt => ⟨by omega, hsm _ (hmem (by omega)), fun hno => ?_, fun hy => ⟨by omega, by omega, k + 1, ⟨⟨?_, by omega⟩, ?_⟩, ⟨by omega, ?_⟩, by omega⟩⟩, fun hge => ?_⟩
  · have : w.all dirOk = false := List.all_eq_false.2 ⟨_, hmem (by omega), by rw [hno]; simp⟩
    rw [this]; simp
  · rw [ht (by omega)]; simp
  · have h0 : ¬ dirN (w.getD k []) = 0 := fun h => by
      unfold dirOk at hy
      simp only [h, decide_true, Bool.not_true, Bool.false_and, Bool.and_false, Bool.false_eq_true] at hy
    have hr : refD (w.getD k []) = dirS (w.getD k []) := by rw [refD, if_neg h0]
    rw [ht (by omega), hr]; simp [enc_dir]
  · rw [ht (by omega), List.all_append, hn]; simpa using hy
  · rw [List.take_of_length_le (show w.length ≤ k by omega)] at hn ⊢
    rw [hn, List.take_of_length_le (by simp)]
    cases en with
    | true => simp
    | false => rw [hnil rfl]; simp
def tb_specParseR : List Blk → List AV → Option (List Blk × AV × Prop)
  | [], [.str s] => some ([], .tuple [enc_dirs (dirsS s), .bool (dirsOk s)], (s.length ≤ 1000000))
  | _, _ => none
theorem tb_specParseR_ok : ∀ E args E' res p, tb_specParseR E args = some (E', res, p) → p → SpecE Try.prog 115 E args E' res := by
  intro E args E' res p h hp
  unfold tb_specParseR at h
  split at h
  · simp only [Option.some.injEq, Prod.mk.injEq] at h
    obtain ⟨rfl, rfl, rfl⟩ := h
    exact (specParseR _ hp)
  · cases h

def T_specTextR : Tbl := fun g E args => (addT (addT (addT nilT 167 Go.Proofs.Try.Cur.tb_specQuoteR) 166 Go.Proofs.Try.Oct.tb_specTokenR) 42 Go.Proofs.Try.Lists.tb_specJoinR) g E args
theorem T_specTextR_ok : TblOK Try.prog T_specTextR := (addT_ok (addT_ok (addT_ok nilT_ok (by decide +kernel) Go.Proofs.Try.Cur.tb_specQuoteR_ok) (by decide +kernel) Go.Proofs.Try.Oct.tb_specTokenR_ok) (by decide +kernel) Go.Proofs.Try.Lists.tb_specJoinR_ok)
set_option maxRecDepth 100000 in
set_option maxHeartbeats 4000000 in
theorem specTextR (l : List Dir) (hl : l.length ≤ 1000) (hq : ∀ d ∈ l, d.1.length ≤ 10000 ∧ d.2.1.length ≤ 10000) : SpecE Try.prog 117 [] [enc_dirs l] [] (.tuple [.str (dirsText l), .bool (dirsMay l)]) := by
  refine specF0 (C := T_specTextR) (wr := false) (D := fun _ => []) (U := fun _ => none) (res := [.str (dirsText l), .bool (dirsMay l)]) Try.Ty.mixed T_specTextR_ok Try.func117 (nA := 1) (by decide +kernel) rfl (fun _ => rfl) ?_
  simp only [Try.f117, bodyOf, rlOf]
  rw [W_V]
  simp (config := {maxSteps := 2000000}) only [T_specTextR, Go.Proofs.Try.Cur.tb_specQuoteR, Go.Proofs.Try.Oct.tb_specTokenR, Go.Proofs.Try.Lists.tb_specJoinR, go_sem, reduceIte, Nat.reduceEqDiff, Nat.reduceAdd, Nat.reduceMul, Nat.reduceSub, Nat.reduceBEq, Nat.reduceLT, Nat.reduceLeDiff, reduceCtorEq, Int.reduceNeg, Int.reduceEq, String.reduceEq, Int.reduceLT, Int.reduceLE, Int.reduceToNat, Int.reduceAdd, Int.reduceMul, Int.reduceSub]
  (try simp (config := {maxSteps := 2000000}) only [gimp, impB, isT, go_sem, reduceIte, Nat.reduceEqDiff, Nat.reduceAdd, Nat.reduceMul, Nat.reduceSub, Nat.reduceBEq, Nat.reduceLT, Nat.reduceLeDiff, reduceCtorEq, Int.reduceNeg, Int.reduceEq, String.reduceEq, Int.reduceLT, Int.reduceLE, Int.reduceToNat, Int.reduceAdd, Int.reduceMul, Int.reduceSub])
  refine VL_inv (X := Nat) (fun k => ⟨[(0, enc_dirs l), (4, .ref 144 0 (l.take k).length (l.take k).length), (5, .int .i64 k)], [(144, .cells 1 false (.str []) (((l.take k).map dirText).map .str))]⟩) (fun k => k ≤ l.length ∧ (l.take k).all dirMay = true) (fun k => l.length - k) 0 ?_ ?_ ?_
  · simp only [List.take_zero, List.map_nil, go_sem, go_sem, reduceIte, Nat.reduceEqDiff, Nat.reduceAdd, Nat.reduceMul, Nat.reduceSub, Nat.reduceBEq, Nat.reduceLT, Nat.reduceLeDiff, reduceCtorEq, Int.reduceNeg, Int.reduceEq, String.reduceEq, Int.reduceLT, Int.reduceLE, Int.reduceToNat, Int.reduceAdd, Int.reduceMul, Int.reduceSub]
    try rfl
  · exact ⟨Nat.zero_le _, by simp⟩
  rintro k ⟨hk, hn⟩
  simp (config := {maxSteps := 2000000}) only [T_specTextR, Go.Proofs.Try.Cur.tb_specQuoteR, Go.Proofs.Try.Oct.tb_specTokenR, Go.Proofs.Try.Lists.tb_specJoinR, go_sem, reduceIte, Nat.reduceEqDiff, Nat.reduceAdd, Nat.reduceMul, Nat.reduceSub, Nat.reduceBEq, Nat.reduceLT, Nat.reduceLeDiff, reduceCtorEq, Int.reduceNeg, Int.reduceEq, String.reduceEq, Int.reduceLT, Int.reduceLE, Int.reduceToNat, Int.reduceAdd, Int.reduceMul, Int.reduceSub]
  (try simp (config := {maxSteps := 2000000}) only [gimp, impB, isT, go_sem, reduceIte, Nat.reduceEqDiff, Nat.reduceAdd, Nat.reduceMul, Nat.reduceSub, Nat.reduceBEq, Nat.reduceLT, Nat.reduceLeDiff, reduceCtorEq, Int.reduceNeg, Int.reduceEq, String.reduceEq, Int.reduceLT, Int.reduceLE, Int.reduceToNat, Int.reduceAdd, Int.reduceMul, Int.reduceSub])
  have hlk : (l.take k).length ≤ 1000 := by rw [List.length_take]; omega
  have ht := fun h : k < l.length => take_succ_getD (s := l) dir0 h
  have hmem := fun h : k < l.length => List.mem_of_getElem? (getD_of_lt (s := l) (d := dir0) h)
  refine ⟨fun hlt => ?_, fun hge => ?_⟩
  · have h1 := hmem (by omega)
    have h2 := hq _ h1
    have h3 := quoteS_len (l.getD k dir0).2.1
    have ht2 := ht (by omega)
    generalize l.getD k dir0 = d at *
    have hd1 : ∀ x : List UInt8, (x ++ [61]).length = x.length + 1 := fun x => by simp
    have hgo : dirMay d = true → (l.take (k + 1)).all dirMay = true := fun h => by rw [ht2, List.all_append, hn]; simp [h]
    refine ⟨by omega, by omega, ⟨fun _ => by omega, fun _ => by omega⟩, fun _ => by omega, ⟨fun _ _ => by omega, fun _ _ => by omega⟩, ⟨fun _ _ _ => by omega, fun _ _ _ => by omega⟩, fun hbad => ?_, fun g2 g1 g3 => ⟨by omega, fun g4 => ⟨by omega, by omega, by rw [hd1]; omega, by omega, by omega, k + 1, ⟨⟨?_, by omega⟩, ?_⟩, ⟨by omega, hgo ?_⟩, by omega⟩, fun g4 => ⟨by omega, by omega, by omega, k + 1, ⟨⟨?_, by omega⟩, ?_⟩, ⟨by omega, hgo ?_⟩, by omega⟩⟩⟩
    · have hno : dirMay d = false := by
        rcases hbad with (h | h) | ⟨h, h'⟩
        · simp [dirMay, h]
        · simp [dirMay, h]
        · simp [dirMay, h, h']
      have hno2 : dirsMay l = false := List.all_eq_false.2 ⟨d, h1, by rw [hno]; simp⟩
      rw [dirsText, hno2]; exact ⟨rfl, rfl⟩
    · rw [ht2]; simp
    · rw [ht2]; simp [dirText, g4]
    · simp [dirMay, g1, g2, g4]
    · rw [ht2]; simp
    · rw [ht2]; simp [dirText, g4]
    · have : d.2.1 = [] := by rw [g4] at g3; simpa using g3
      rw [dirMay, g1, g2, g4, decide_eq_true this]; rfl
  · rw [List.take_of_length_le (show l.length ≤ k by omega)] at hn ⊢
    rw [List.take_of_length_le (by simp)]
    refine ⟨⟨by rw [List.length_map]; omega, fun x hx => ?_⟩, ?_, hn.symm⟩
    · obtain ⟨d, hd, rfl⟩ := List.mem_map.1 hx
      have := dirText_len d
      have := hq d hd
      omega
    · rw [dirsText, if_pos (show dirsMay l = true from hn)]
def tb_specTextR : List Blk → List AV → Option (List Blk × AV × Prop)
  | [], [a0] => some ([], .tuple [.str (dirsText (dec_dirs a0)), .bool (dirsMay (dec_dirs a0))], ((dec_dirs a0).length ≤ 1000) ∧ (∀ d ∈ (dec_dirs a0), d.1.length ≤ 10000 ∧ d.2.1.length ≤ 10000) ∧ argOK a0 (enc_dirs (dec_dirs a0)))
  | _, _ => none
theorem tb_specTextR_ok : ∀ E args E' res p, tb_specTextR E args = some (E', res, p) → p → SpecE Try.prog 117 E args E' res := by
  intro E args E' res p h hp
  unfold tb_specTextR at h
  split at h
  · simp only [Option.some.injEq, Prod.mk.injEq] at h
    obtain ⟨rfl, rfl, rfl⟩ := h
    exact SpecE.args (specTextR _ hp.1 hp.2.1) (.cons hp.2.2 .nil)
  · cases h

def T_specControlR : Tbl := fun g E args => (addT (addT nilT 200 Go.Proofs.Try.HdrR.tb_specCombined) 115 Go.Proofs.Try.CacR.tb_specParseR) g E args
theorem T_specControlR_ok : TblOK Try.prog T_specControlR := (addT_ok (addT_ok nilT_ok (by decide +kernel) Go.Proofs.Try.HdrR.tb_specCombined_ok) (by decide +kernel) Go.Proofs.Try.CacR.tb_specParseR_ok)
set_option maxRecDepth 100000 in
set_option maxHeartbeats 4000000 in
theorem specControlR (l : List Fld) (hl : l.length ≤ 1000) (hf : ∀ f ∈ l, f.1.length ≤ 1000000) (hq : ∀ f ∈ l, f.2.length ≤ 900) : SpecE Try.prog 105 [] [enc_flds l] [] (enc_dirs (ctlS l)) := by
  refine specF0 (C := T_specControlR) (wr := false) (D := fun _ => []) (U := fun _ => none) (res := [enc_dirs (ctlS l)]) Try.Ty.mixed T_specControlR_ok Try.func105 (nA := 1) (by decide +kernel) rfl (fun _ => rfl) ?_
  simp only [Try.f105, bodyOf, rlOf]
  rw [W_V]
  simp (config := {maxSteps := 2000000}) only [T_specControlR, Go.Proofs.Try.HdrR.tb_specCombined, Go.Proofs.Try.CacR.tb_specParseR, go_sem, reduceIte, Nat.reduceEqDiff, Nat.reduceAdd, Nat.reduceMul, Nat.reduceSub, Nat.reduceBEq, Nat.reduceLT, Nat.reduceLeDiff, reduceCtorEq, Int.reduceNeg, Int.reduceEq, String.reduceEq, Int.reduceLT, Int.reduceLE, Int.reduceToNat, Int.reduceAdd, Int.reduceMul, Int.reduceSub]
  (try simp (config := {maxSteps := 2000000}) only [gimp, impB, isT, go_sem, reduceIte, Nat.reduceEqDiff, Nat.reduceAdd, Nat.reduceMul, Nat.reduceSub, Nat.reduceBEq, Nat.reduceLT, Nat.reduceLeDiff, reduceCtorEq, Int.reduceNeg, Int.reduceEq, String.reduceEq, Int.reduceLT, Int.reduceLE, Int.reduceToNat, Int.reduceAdd, Int.reduceMul, Int.reduceSub])
  have h1 := comb_len3 nmCC hl hq
  exact ⟨⟨hl, hf, fun f h => by have := hq f h; omega⟩, by have : (combS l [67, 97, 99, 104, 101, 45, 67, 111, 110, 116, 114, 111, 108]).length ≤ 902000 := h1; omega, rfl⟩
def tb_specControlR : List Blk → List AV → Option (List Blk × AV × Prop)
  | [], [a0] => some ([], enc_dirs (ctlS (dec_flds a0)), ((dec_flds a0).length ≤ 1000) ∧ (∀ f ∈ (dec_flds a0), f.1.length ≤ 1000000) ∧ (∀ f ∈ (dec_flds a0), f.2.length ≤ 900) ∧ argOK a0 (enc_flds (dec_flds a0)))
  | _, _ => none
theorem tb_specControlR_ok : ∀ E args E' res p, tb_specControlR E args = some (E', res, p) → p → SpecE Try.prog 105 E args E' res := by
  intro E args E' res p h hp
  unfold tb_specControlR at h
  split at h
  · simp only [Option.some.injEq, Prod.mk.injEq] at h
    obtain ⟨rfl, rfl, rfl⟩ := h
    exact SpecE.args (specControlR _ hp.1 hp.2.1 hp.2.2.1) (.cons hp.2.2.2 .nil)
  · cases h

def T_specFindR : Tbl := fun g E args => (addT (addT nilT 105 Go.Proofs.Try.CacR.tb_specControlR) 50 Go.Proofs.Try.Oct.tb_specLowerR) g E args
theorem T_specFindR_ok : TblOK Try.prog T_specFindR := (addT_ok (addT_ok nilT_ok (by decide +kernel) Go.Proofs.Try.CacR.tb_specControlR_ok) (by decide +kernel) Go.Proofs.Try.Oct.tb_specLowerR_ok)
set_option maxRecDepth 100000 in
set_option maxHeartbeats 4000000 in
theorem specFindR (l : List Fld) (n : List UInt8) (hl : l.length ≤ 1000) (hf : ∀ f ∈ l, f.1.length ≤ 1000000) (hq : ∀ f ∈ l, f.2.length ≤ 900) (hn : n.length ≤ 1000000) : SpecE Try.prog 102 [] [enc_flds l, .str n] [] (.tuple [.agg [.str ((ctlS l).getD ((ctlS l).findIdx (dirIs n)) dir0).1, .str ((ctlS l).getD ((ctlS l).findIdx (dirIs n)) dir0).2.1, .bool ((ctlS l).getD ((ctlS l).findIdx (dirIs n)) dir0).2.2], .bool (ctlHas l n)]) := by
  refine specF0 (C := T_specFindR) (wr := false) (D := fun _ => []) (U := fun _ => none) (res := [.agg [.str ((ctlS l).getD ((ctlS l).findIdx (dirIs n)) dir0).1, .str ((ctlS l).getD ((ctlS l).findIdx (dirIs n)) dir0).2.1, .bool ((ctlS l).getD ((ctlS l).findIdx (dirIs n)) dir0).2.2], .bool (ctlHas l n)]) Try.Ty.mixed T_specFindR_ok Try.func102 (nA := 2) (by decide +kernel) rfl (fun _ => rfl) ?_
  simp only [Try.f102, bodyOf, rlOf]
  rw [W_V]
  simp (config := {maxSteps := 2000000}) only [T_specFindR, Go.Proofs.Try.CacR.tb_specControlR, Go.Proofs.Try.Oct.tb_specLowerR, go_sem, reduceIte, Nat.reduceEqDiff, Nat.reduceAdd, Nat.reduceMul, Nat.reduceSub, Nat.reduceBEq, Nat.reduceLT, Nat.reduceLeDiff, reduceCtorEq, Int.reduceNeg, Int.reduceEq, String.reduceEq, Int.reduceLT, Int.reduceLE, Int.reduceToNat, Int.reduceAdd, Int.reduceMul, Int.reduceSub]
  (try simp (config := {maxSteps := 2000000}) only [gimp, impB, isT, go_sem, reduceIte, Nat.reduceEqDiff, Nat.reduceAdd, Nat.reduceMul, Nat.reduceSub, Nat.reduceBEq, Nat.reduceLT, Nat.reduceLeDiff, reduceCtorEq, Int.reduceNeg, Int.reduceEq, String.reduceEq, Int.reduceLT, Int.reduceLE, Int.reduceToNat, Int.reduceAdd, Int.reduceMul, Int.reduceSub])
  have hcnt : (ctlS l).length ≤ 902001 := by
    have h1 := comb_len3 nmCC hl hq
    have h2 := dirsS_count (combS l nmCC)
    unfold ctlS; omega
  have hH : ctlHas l n = (ctlS l).any (dirIs n) := rfl
  refine ⟨⟨hl, hf, hq⟩, ?_⟩
  rw [hH]
  generalize ctlS l = w at *
  refine VL_inv (X := Nat) (fun k => ⟨[(1, .str n), (4, .ptr 80 0 0 1), (6, enc_dirs w), (7, .int .i64 k)], [(80, .cells 3 false (.agg [.str [], .str [], .bool false]) [.agg [.str [], .str [], .bool false]])]⟩) (fun k => k ≤ w.length ∧ (w.take k).any (dirIs n) = false) (fun k => w.length - k) 0 ?_ ?_ ?_
  · simp only [go_sem, go_sem, reduceIte, Nat.reduceEqDiff, Nat.reduceAdd, Nat.reduceMul, Nat.reduceSub, Nat.reduceBEq, Nat.reduceLT, Nat.reduceLeDiff, reduceCtorEq, Int.reduceNeg, Int.reduceEq, String.reduceEq, Int.reduceLT, Int.reduceLE, Int.reduceToNat, Int.reduceAdd, Int.reduceMul, Int.reduceSub]
    try rfl
  · exact ⟨Nat.zero_le _, by simp⟩
  rintro k ⟨hk, hn2⟩
  simp (config := {maxSteps := 2000000}) only [T_specFindR, Go.Proofs.Try.CacR.tb_specControlR, Go.Proofs.Try.Oct.tb_specLowerR, go_sem, reduceIte, Nat.reduceEqDiff, Nat.reduceAdd, Nat.reduceMul, Nat.reduceSub, Nat.reduceBEq, Nat.reduceLT, Nat.reduceLeDiff, reduceCtorEq, Int.reduceNeg, Int.reduceEq, String.reduceEq, Int.reduceLT, Int.reduceLE, Int.reduceToNat, Int.reduceAdd, Int.reduceMul, Int.reduceSub]
  (try simp (config := {maxSteps := 2000000}) only [gimp, impB, isT, go_sem, reduceIte, Nat.reduceEqDiff, Nat.reduceAdd, Nat.reduceMul, Nat.reduceSub, Nat.reduceBEq, Nat.reduceLT, Nat.reduceLeDiff, reduceCtorEq, Int.reduceNeg, Int.reduceEq, String.reduceEq, Int.reduceLT, Int.reduceLE, Int.reduceToNat, Int.reduceAdd, Int.reduceMul, Int.reduceSub])
  refine ⟨fun hlt => ⟨by omega, hn, fun he => ?_, fun hne => ⟨by omega, k + 1, by omega, ⟨by omega, ?_⟩, by omega⟩⟩, fun hge => ?_⟩
  · have hit := idxP_hit (p := dirIs n) (l := w) dir0 (x := k) (by omega) hn2 (by rw [dirIs, decide_eq_true_eq]; exact he)
    have hany : w.any (dirIs n) = true := by rw [← idxP_ge, hit]; omega
    have hx : w.findIdx (dirIs n) = k := by
      unfold idxP at hit
      rw [if_pos hany] at hit
      omega
    rw [hx, hany]; exact ⟨by omega, rfl, rfl⟩
  · rw [any_take_succ dir0 (by omega) hn2, dirIs, decide_eq_false_iff_not]; exact hne
  · rw [List.take_of_length_le (show w.length ≤ k by omega)] at hn2
    have hx : w.findIdx (dirIs n) = w.length := List.findIdx_eq_length.2 (fun d hd => by
      have := List.any_eq_false.1 hn2 d hd
      simpa using this)
    rw [hn2, hx]
    have : w.getD w.length dir0 = dir0 := by simp [List.getD_eq_getElem?_getD]
    rw [this]; exact ⟨rfl, rfl⟩
def tb_specFindR : List Blk → List AV → Option (List Blk × AV × Prop)
  | [], [a0, .str n] => some ([], .tuple [.agg [.str ((ctlS (dec_flds a0)).getD ((ctlS (dec_flds a0)).findIdx (dirIs n)) dir0).1, .str ((ctlS (dec_flds a0)).getD ((ctlS (dec_flds a0)).findIdx (dirIs n)) dir0).2.1, .bool ((ctlS (dec_flds a0)).getD ((ctlS (dec_flds a0)).findIdx (dirIs n)) dir0).2.2], .bool (ctlHas (dec_flds a0) n)], ((dec_flds a0).length ≤ 1000) ∧ (∀ f ∈ (dec_flds a0), f.1.length ≤ 1000000) ∧ (∀ f ∈ (dec_flds a0), f.2.length ≤ 900) ∧ (n.length ≤ 1000000) ∧ argOK a0 (enc_flds (dec_flds a0)))
  | _, _ => none
theorem tb_specFindR_ok : ∀ E args E' res p, tb_specFindR E args = some (E', res, p) → p → SpecE Try.prog 102 E args E' res := by
  intro E args E' res p h hp
  unfold tb_specFindR at h
  split at h
  · simp only [Option.some.injEq, Prod.mk.injEq] at h
    obtain ⟨rfl, rfl, rfl⟩ := h
    exact SpecE.args (specFindR _ _ hp.1 hp.2.1 hp.2.2.1 hp.2.2.2.1) (.cons hp.2.2.2.2 (.cons (argOK.refl _) .nil))
  · cases h

def T_specAgeR : Tbl := fun g E args => (addT (addT nilT 102 Go.Proofs.Try.CacR.tb_specFindR) 59 Go.Proofs.Try.Dig.tb_specNumberR) g E args
theorem T_specAgeR_ok : TblOK Try.prog T_specAgeR := (addT_ok (addT_ok nilT_ok (by decide +kernel) Go.Proofs.Try.CacR.tb_specFindR_ok) (by decide +kernel) Go.Proofs.Try.Dig.tb_specNumberR_ok)
set_option maxRecDepth 100000 in
set_option maxHeartbeats 4000000 in
theorem specAgeR (l : List Fld) (hl : l.length ≤ 1000) (hf : ∀ f ∈ l, f.1.length ≤ 1000000) (hq : ∀ f ∈ l, f.2.length ≤ 900) : SpecE Try.prog 101 [] [enc_flds l] [] (.tuple [.int .i64 (ageN l), .bool (ageOk l)]) := by
  refine specF0 (C := T_specAgeR) (wr := false) (D := fun _ => []) (U := fun _ => none) (res := [.int .i64 (ageN l), .bool (ageOk l)]) Try.Ty.mixed T_specAgeR_ok Try.func101 (nA := 1) (by decide +kernel) rfl (fun _ => rfl) ?_
  simp only [Try.f101, bodyOf, rlOf]
  rw [W_V]
  simp (config := {maxSteps := 2000000}) only [T_specAgeR, Go.Proofs.Try.CacR.tb_specFindR, Go.Proofs.Try.Dig.tb_specNumberR, go_sem, reduceIte, Nat.reduceEqDiff, Nat.reduceAdd, Nat.reduceMul, Nat.reduceSub, Nat.reduceBEq, Nat.reduceLT, Nat.reduceLeDiff, reduceCtorEq, Int.reduceNeg, Int.reduceEq, String.reduceEq, Int.reduceLT, Int.reduceLE, Int.reduceToNat, Int.reduceAdd, Int.reduceMul, Int.reduceSub]
  (try simp (config := {maxSteps := 2000000}) only [gimp, impB, isT, go_sem, reduceIte, Nat.reduceEqDiff, Nat.reduceAdd, Nat.reduceMul, Nat.reduceSub, Nat.reduceBEq, Nat.reduceLT, Nat.reduceLeDiff, reduceCtorEq, Int.reduceNeg, Int.reduceEq, String.reduceEq, Int.reduceLT, Int.reduceLE, Int.reduceToNat, Int.reduceAdd, Int.reduceMul, Int.reduceSub])
  have hW : [109, 97, 120, 45, 97, 103, 101] = wdAge := rfl
  rw [hW]
  have hV : ((ctlS l).getD ((ctlS l).findIdx (dirIs wdAge)) dir0).2.1 = ageV l := rfl
  rw [hV]
  have hlen : (ageV l).length ≤ 1000000 := by
    unfold ageV
    rcases Nat.lt_or_ge ((ctlS l).findIdx (dirIs wdAge)) (ctlS l).length with h | h
    · have hm := List.mem_of_getElem? (getD_of_lt (s := ctlS l) (d := dir0) h)
      obtain ⟨e, he, _, hd⟩ := dirsS_mem (s := combS l nmCC) hm
      rw [hd]
      have h1 := (dirS_len (s := e)).2
      have h2 := (splitS_mem he).1
      have h3 := comb_len3 nmCC hl hq
      omega
    · have : (ctlS l).getD ((ctlS l).findIdx (dirIs wdAge)) dir0 = dir0 := by simp [List.getD_eq_getElem?_getD, List.getElem?_eq_none h]
      rw [this]; decide
  refine ⟨⟨hl, hf, hq⟩, hlen, fun h => by simp [ageN, ageOk, h], fun h => ⟨fun h5 => ?_, fun h5 => ?_⟩⟩
  · rw [ageN, ageOk, h, if_pos rfl, if_pos h5, h5]; exact ⟨rfl, rfl⟩
  · rw [ageN, ageOk, h, if_pos rfl, if_neg h5, decide_eq_false h5]; exact ⟨rfl, rfl⟩
def tb_specAgeR : List Blk → List AV → Option (List Blk × AV × Prop)
  | [], [a0] => some ([], .tuple [.int .i64 (ageN (dec_flds a0)), .bool (ageOk (dec_flds a0))], ((dec_flds a0).length ≤ 1000) ∧ (∀ f ∈ (dec_flds a0), f.1.length ≤ 1000000) ∧ (∀ f ∈ (dec_flds a0), f.2.length ≤ 900) ∧ argOK a0 (enc_flds (dec_flds a0)))
  | _, _ => none
theorem tb_specAgeR_ok : ∀ E args E' res p, tb_specAgeR E args = some (E', res, p) → p → SpecE Try.prog 101 E args E' res := by
  intro E args E' res p h hp
  unfold tb_specAgeR at h
  split at h
  · simp only [Option.some.injEq, Prod.mk.injEq] at h
    obtain ⟨rfl, rfl, rfl⟩ := h
    exact SpecE.args (specAgeR _ hp.1 hp.2.1 hp.2.2.1) (.cons hp.2.2.2 .nil)
  · cases h

def T_specPragmaR : Tbl := fun g E args => (addT (addT nilT 200 Go.Proofs.Try.HdrR.tb_specCombined) 39 Go.Proofs.Try.Lists.tb_specHasR) g E args
theorem T_specPragmaR_ok : TblOK Try.prog T_specPragmaR := (addT_ok (addT_ok nilT_ok (by decide +kernel) Go.Proofs.Try.HdrR.tb_specCombined_ok) (by decide +kernel) Go.Proofs.Try.Lists.tb_specHasR_ok)
set_option maxRecDepth 100000 in
set_option maxHeartbeats 4000000 in
theorem specPragmaR (l : List Fld) (hl : l.length ≤ 1000) (hf : ∀ f ∈ l, f.1.length ≤ 1000000) (hq : ∀ f ∈ l, f.2.length ≤ 900) : SpecE Try.prog 108 [] [enc_flds l] [] (.bool (pragS l)) := by
  refine specF0 (C := T_specPragmaR) (wr := false) (D := fun _ => []) (U := fun _ => none) (res := [.bool (pragS l)]) Try.Ty.mixed T_specPragmaR_ok Try.func108 (nA := 1) (by decide +kernel) rfl (fun _ => rfl) ?_
  simp only [Try.f108, bodyOf, rlOf]
  rw [W_V]
  simp (config := {maxSteps := 2000000}) only [T_specPragmaR, Go.Proofs.Try.HdrR.tb_specCombined, Go.Proofs.Try.Lists.tb_specHasR, go_sem, reduceIte, Nat.reduceEqDiff, Nat.reduceAdd, Nat.reduceMul, Nat.reduceSub, Nat.reduceBEq, Nat.reduceLT, Nat.reduceLeDiff, reduceCtorEq, Int.reduceNeg, Int.reduceEq, String.reduceEq, Int.reduceLT, Int.reduceLE, Int.reduceToNat, Int.reduceAdd, Int.reduceMul, Int.reduceSub]
  (try simp (config := {maxSteps := 2000000}) only [gimp, impB, isT, go_sem, reduceIte, Nat.reduceEqDiff, Nat.reduceAdd, Nat.reduceMul, Nat.reduceSub, Nat.reduceBEq, Nat.reduceLT, Nat.reduceLeDiff, reduceCtorEq, Int.reduceNeg, Int.reduceEq, String.reduceEq, Int.reduceLT, Int.reduceLE, Int.reduceToNat, Int.reduceAdd, Int.reduceMul, Int.reduceSub])
  have h1 := comb_len3 [80, 114, 97, 103, 109, 97] hl hq
  exact ⟨⟨hl, hf, fun f h => by have := hq f h; omega⟩, by omega, rfl⟩
def tb_specPragmaR : List Blk → List AV → Option (List Blk × AV × Prop)
  | [], [a0] => some ([], .bool (pragS (dec_flds a0)), ((dec_flds a0).length ≤ 1000) ∧ (∀ f ∈ (dec_flds a0), f.1.length ≤ 1000000) ∧ (∀ f ∈ (dec_flds a0), f.2.length ≤ 900) ∧ argOK a0 (enc_flds (dec_flds a0)))
  | _, _ => none
theorem tb_specPragmaR_ok : ∀ E args E' res p, tb_specPragmaR E args = some (E', res, p) → p → SpecE Try.prog 108 E args E' res := by
  intro E args E' res p h hp
  unfold tb_specPragmaR at h
  split at h
  · simp only [Option.some.injEq, Prod.mk.injEq] at h
    obtain ⟨rfl, rfl, rfl⟩ := h
    exact SpecE.args (specPragmaR _ hp.1 hp.2.1 hp.2.2.1) (.cons hp.2.2.2 .nil)
  · cases h

def T_specSameD : Tbl := fun g E args => nilT g E args
theorem T_specSameD_ok : TblOK Try.prog T_specSameD := nilT_ok
set_option maxRecDepth 100000 in
set_option maxHeartbeats 4000000 in
theorem specSameD (a b : List Dir) (h : a.length ≤ 2147483647) : SpecE Try.prog 103 [] [enc_dirs a, enc_dirs b] [] (.bool (decide (a = b))) := by
  refine specF0 (C := T_specSameD) (wr := false) (D := fun _ => []) (U := fun _ => none) (res := [.bool (decide (a = b))]) Try.Ty.mixed T_specSameD_ok Try.func103 (nA := 2) (by decide +kernel) rfl (fun _ => rfl) ?_
  simp only [Try.f103, bodyOf, rlOf]
  rw [W_V]
  simp (config := {maxSteps := 2000000}) only [T_specSameD, go_sem, reduceIte, Nat.reduceEqDiff, Nat.reduceAdd, Nat.reduceMul, Nat.reduceSub, Nat.reduceBEq, Nat.reduceLT, Nat.reduceLeDiff, reduceCtorEq, Int.reduceNeg, Int.reduceEq, String.reduceEq, Int.reduceLT, Int.reduceLE, Int.reduceToNat, Int.reduceAdd, Int.reduceMul, Int.reduceSub]
  (try simp (config := {maxSteps := 2000000}) only [gimp, impB, isT, go_sem, reduceIte, Nat.reduceEqDiff, Nat.reduceAdd, Nat.reduceMul, Nat.reduceSub, Nat.reduceBEq, Nat.reduceLT, Nat.reduceLeDiff, reduceCtorEq, Int.reduceNeg, Int.reduceEq, String.reduceEq, Int.reduceLT, Int.reduceLE, Int.reduceToNat, Int.reduceAdd, Int.reduceMul, Int.reduceSub])
  refine ⟨fun hne => ?_, fun heq => ?_⟩
  · symm; rw [decide_eq_false_iff_not]; rintro rfl; exact hne rfl
  have hl : a.length = b.length := by omega
  refine VL_inv (X := Nat) (fun x => ⟨[(0, enc_dirs a), (1, enc_dirs b), (5, .int .i64 x)], []⟩) (fun x => x ≤ a.length ∧ a.take x = b.take x) (fun x => a.length - x) 0 ?_ ?_ ?_
  · simp only [go_sem, go_sem, reduceIte, Nat.reduceEqDiff, Nat.reduceAdd, Nat.reduceMul, Nat.reduceSub, Nat.reduceBEq, Nat.reduceLT, Nat.reduceLeDiff, reduceCtorEq, Int.reduceNeg, Int.reduceEq, String.reduceEq, Int.reduceLT, Int.reduceLE, Int.reduceToNat, Int.reduceAdd, Int.reduceMul, Int.reduceSub]
    try rfl
  · exact ⟨Nat.zero_le _, by simp⟩
  rintro x ⟨hx, hn⟩
  simp (config := {maxSteps := 2000000}) only [T_specSameD, go_sem, reduceIte, Nat.reduceEqDiff, Nat.reduceAdd, Nat.reduceMul, Nat.reduceSub, Nat.reduceBEq, Nat.reduceLT, Nat.reduceLeDiff, reduceCtorEq, Int.reduceNeg, Int.reduceEq, String.reduceEq, Int.reduceLT, Int.reduceLE, Int.reduceToNat, Int.reduceAdd, Int.reduceMul, Int.reduceSub]
  (try simp (config := {maxSteps := 2000000}) only [gimp, impB, isT, go_sem, reduceIte, Nat.reduceEqDiff, Nat.reduceAdd, Nat.reduceMul, Nat.reduceSub, Nat.reduceBEq, Nat.reduceLT, Nat.reduceLeDiff, reduceCtorEq, Int.reduceNeg, Int.reduceEq, String.reduceEq, Int.reduceLT, Int.reduceLE, Int.reduceToNat, Int.reduceAdd, Int.reduceMul, Int.reduceSub])
  have hbe : ((a.getD x dir0).2.2 == (b.getD x dir0).2.2) = true ↔ (a.getD x dir0).2.2 = (b.getD x dir0).2.2 := by simp
  refine ⟨fun hlt => ?_, fun hge => ?_⟩
  · obtain ⟨h1, h2⟩ := same_step (a := a) (b := b) (x := x) dir0 hl (by omega) hn
    refine ⟨by omega, by omega, fun he => ?_, fun e1 e2 e3 => ⟨by omega, x + 1, by omega, ⟨by omega, h1 (Prod.ext e1 (Prod.ext e2 (hbe.1 e3)))⟩, by omega⟩⟩
    have : a ≠ b := h2 (fun e => by rw [e] at he; simp at he)
    simp [this]
  · have : x = a.length := by omega
    subst this
    rw [List.take_length, hl, List.take_length] at hn
    simp [hn]
def tb_specSameD : List Blk → List AV → Option (List Blk × AV × Prop)
  | [], [a0, a1] => some ([], .bool (decide ((dec_dirs a0) = (dec_dirs a1))), ((dec_dirs a0).length ≤ 2147483647) ∧ argOK a0 (enc_dirs (dec_dirs a0)) ∧ argOK a1 (enc_dirs (dec_dirs a1)))
  | _, _ => none
theorem tb_specSameD_ok : ∀ E args E' res p, tb_specSameD E args = some (E', res, p) → p → SpecE Try.prog 103 E args E' res := by
  intro E args E' res p h hp
  unfold tb_specSameD at h
  split at h
  · simp only [Option.some.injEq, Prod.mk.injEq] at h
    obtain ⟨rfl, rfl, rfl⟩ := h
    exact SpecE.args (specSameD _ _ hp.1) (.cons hp.2.1 (.cons hp.2.2 .nil))
  · cases h

def T_specLives : Tbl := fun g E args => (addT (addT (addT nilT 100 Go.Proofs.Try.Cac.tb_specAge) 106 Go.Proofs.Try.Cac.tb_specHas) 107 Go.Proofs.Try.Cac.tb_specPragma) g E args
theorem T_specLives_ok : TblOK Try.prog T_specLives := (addT_ok (addT_ok (addT_ok nilT_ok (by decide +kernel) Go.Proofs.Try.Cac.tb_specAge_ok) (by decide +kernel) Go.Proofs.Try.Cac.tb_specHas_ok) (by decide +kernel) Go.Proofs.Try.Cac.tb_specPragma_ok)
set_option maxRecDepth 100000 in
set_option maxHeartbeats 4000000 in
theorem specLives : SpecE Try.prog 99 [] [] [] (.bool true) := by
  refine specF0 (C := T_specLives) (wr := false) (D := fun _ => []) (U := fun _ => none) (res := [.bool true]) Try.Ty.mixed T_specLives_ok Try.func99 (nA := 0) (by decide +kernel) rfl (fun _ => rfl) ?_
  simp only [Try.f99, bodyOf, rlOf]
  rw [W_V]
  simp (config := {maxSteps := 2000000}) only [T_specLives, Go.Proofs.Try.Cac.tb_specAge, Go.Proofs.Try.Cac.tb_specHas, Go.Proofs.Try.Cac.tb_specPragma, go_sem, reduceIte, Nat.reduceEqDiff, Nat.reduceAdd, Nat.reduceMul, Nat.reduceSub, Nat.reduceBEq, Nat.reduceLT, Nat.reduceLeDiff, reduceCtorEq, Int.reduceNeg, Int.reduceEq, String.reduceEq, Int.reduceLT, Int.reduceLE, Int.reduceToNat, Int.reduceAdd, Int.reduceMul, Int.reduceSub, dec_fld_mk]
  (try simp (config := {maxSteps := 2000000}) only [gimp, impB, isT, go_sem, reduceIte, Nat.reduceEqDiff, Nat.reduceAdd, Nat.reduceMul, Nat.reduceSub, Nat.reduceBEq, Nat.reduceLT, Nat.reduceLeDiff, reduceCtorEq, Int.reduceNeg, Int.reduceEq, String.reduceEq, Int.reduceLT, Int.reduceLE, Int.reduceToNat, Int.reduceAdd, Int.reduceMul, Int.reduceSub])
  have e1 : ctlHas [([99, 97, 99, 104, 101, 45, 99, 111, 110, 116, 114, 111, 108], [110, 111, 45, 99, 97, 99, 104, 101, 44, 32, 77, 97, 120, 45, 65, 103, 101, 61, 54, 48])] [78, 111, 45, 67, 97, 99, 104, 101] = true := by decide +kernel
  have e2 : ageN [([99, 97, 99, 104, 101, 45, 99, 111, 110, 116, 114, 111, 108], [110, 111, 45, 99, 97, 99, 104, 101, 44, 32, 77, 97, 120, 45, 65, 103, 101, 61, 54, 48])] = 60 := by decide +kernel
  have e3 : ageOk [([99, 97, 99, 104, 101, 45, 99, 111, 110, 116, 114, 111, 108], [110, 111, 45, 99, 97, 99, 104, 101, 44, 32, 77, 97, 120, 45, 65, 103, 101, 61, 54, 48])] = true := by decide +kernel
  have e4 : pragS [([80, 114, 97, 103, 109, 97], [97, 44, 32, 78, 111, 45, 67, 97, 99, 104, 101])] = true := by decide +kernel
  have hm : (8 : Nat) ≤ maxLen := by decide
  simp [e1, e2, e3, e4, hm]
def tb_specLives : List Blk → List AV → Option (List Blk × AV × Prop)
  | [], [] => some ([], .bool true, True)
  | _, _ => none
theorem tb_specLives_ok : ∀ E args E' res p, tb_specLives E args = some (E', res, p) → p → SpecE Try.prog 99 E args E' res := by
  intro E args E' res p h hp
  unfold tb_specLives at h
  split at h
  · simp only [Option.some.injEq, Prod.mk.injEq] at h
    obtain ⟨rfl, rfl, rfl⟩ := h
    exact specLives
  · cases h

def T_specLawParses : Tbl := fun g E args => (addT (addT (addT (addT (addT (addT nilT 114 Go.Proofs.Try.Cac.tb_specParse) 115 Go.Proofs.Try.CacR.tb_specParseR) 116 Go.Proofs.Try.Cac.tb_specText) 117 Go.Proofs.Try.CacR.tb_specTextR) 103 Go.Proofs.Try.CacR.tb_specSameD) 99 Go.Proofs.Try.CacR.tb_specLives) g E args
theorem T_specLawParses_ok : TblOK Try.prog T_specLawParses := (addT_ok (addT_ok (addT_ok (addT_ok (addT_ok (addT_ok nilT_ok (by decide +kernel) Go.Proofs.Try.Cac.tb_specParse_ok) (by decide +kernel) Go.Proofs.Try.CacR.tb_specParseR_ok) (by decide +kernel) Go.Proofs.Try.Cac.tb_specText_ok) (by decide +kernel) Go.Proofs.Try.CacR.tb_specTextR_ok) (by decide +kernel) Go.Proofs.Try.CacR.tb_specSameD_ok) (by decide +kernel) Go.Proofs.Try.CacR.tb_specLives_ok)
set_option maxRecDepth 100000 in
set_option maxHeartbeats 4000000 in
theorem specLawParses (s : List UInt8) (l : List Dir) (hs : s.length ≤ maxLen) (hl : l.length ≤ maxLen) : SpecE Try.prog 25 [] [.str s, enc_dirs l] [] (.bool true) := by
  refine specF0 (C := T_specLawParses) (wr := false) (D := fun _ => []) (U := fun _ => none) (res := [.bool true]) Try.Ty.mixed T_specLawParses_ok Try.func25 (nA := 2) (by decide +kernel) rfl (fun _ => rfl) ?_
  simp only [Try.f25, bodyOf, rlOf]
  rw [W_V]
  simp (config := {maxSteps := 2000000}) only [T_specLawParses, Go.Proofs.Try.Cac.tb_specParse, Go.Proofs.Try.CacR.tb_specParseR, Go.Proofs.Try.Cac.tb_specText, Go.Proofs.Try.CacR.tb_specTextR, Go.Proofs.Try.CacR.tb_specSameD, Go.Proofs.Try.CacR.tb_specLives, go_sem, reduceIte, Nat.reduceEqDiff, Nat.reduceAdd, Nat.reduceMul, Nat.reduceSub, Nat.reduceBEq, Nat.reduceLT, Nat.reduceLeDiff, reduceCtorEq, Int.reduceNeg, Int.reduceEq, String.reduceEq, Int.reduceLT, Int.reduceLE, Int.reduceToNat, Int.reduceAdd, Int.reduceMul, Int.reduceSub]
  (try simp (config := {maxSteps := 2000000}) only [gimp, impB, isT, go_sem, reduceIte, Nat.reduceEqDiff, Nat.reduceAdd, Nat.reduceMul, Nat.reduceSub, Nat.reduceBEq, Nat.reduceLT, Nat.reduceLeDiff, reduceCtorEq, Int.reduceNeg, Int.reduceEq, String.reduceEq, Int.reduceLT, Int.reduceLE, Int.reduceToNat, Int.reduceAdd, Int.reduceMul, Int.reduceSub])
  have hm : l.length ≤ 9223372036854775807 := hl
  have ht : (s.take 1000).length ≤ 1000 := by rw [List.length_take]; omega
  intro hl20
  refine VL_inv (X := Nat) (fun k => ⟨[(0, .str (s.take 1000)), (1, enc_dirs l), (24, enc_dirs l), (25, .int .i64 l.length), (26, .int .i64 k)], []⟩) (fun k => k ≤ l.length ∧ ∀ d ∈ l.take k, d.1.length ≤ 100 ∧ d.2.1.length ≤ 100) (fun k => l.length - k) 0 ?_ ?_ ?_
  · simp only [go_sem, go_sem, reduceIte, Nat.reduceEqDiff, Nat.reduceAdd, Nat.reduceMul, Nat.reduceSub, Nat.reduceBEq, Nat.reduceLT, Nat.reduceLeDiff, reduceCtorEq, Int.reduceNeg, Int.reduceEq, String.reduceEq, Int.reduceLT, Int.reduceLE, Int.reduceToNat, Int.reduceAdd, Int.reduceMul, Int.reduceSub]
    try rfl
  · exact ⟨Nat.zero_le _, by simp⟩
  rintro k ⟨hk, hn⟩
  simp (config := {maxSteps := 2000000}) only [T_specLawParses, Go.Proofs.Try.Cac.tb_specParse, Go.Proofs.Try.CacR.tb_specParseR, Go.Proofs.Try.Cac.tb_specText, Go.Proofs.Try.CacR.tb_specTextR, Go.Proofs.Try.CacR.tb_specSameD, Go.Proofs.Try.CacR.tb_specLives, go_sem, reduceIte, Nat.reduceEqDiff, Nat.reduceAdd, Nat.reduceMul, Nat.reduceSub, Nat.reduceBEq, Nat.reduceLT, Nat.reduceLeDiff, reduceCtorEq, Int.reduceNeg, Int.reduceEq, String.reduceEq, Int.reduceLT, Int.reduceLE, Int.reduceToNat, Int.reduceAdd, Int.reduceMul, Int.reduceSub]
  (try simp (config := {maxSteps := 2000000}) only [gimp, impB, isT, go_sem, reduceIte, Nat.reduceEqDiff, Nat.reduceAdd, Nat.reduceMul, Nat.reduceSub, Nat.reduceBEq, Nat.reduceLT, Nat.reduceLeDiff, reduceCtorEq, Int.reduceNeg, Int.reduceEq, String.reduceEq, Int.reduceLT, Int.reduceLE, Int.reduceToNat, Int.reduceAdd, Int.reduceMul, Int.reduceSub])
  refine ⟨fun hlt => ⟨by omega, fun h1 h2 => ⟨by omega, k + 1, by omega, ⟨by omega, fun d hd => ?_⟩, by omega⟩⟩, fun hge => ?_⟩
  · rw [take_succ_getD dir0 (by omega), List.mem_append, List.mem_singleton] at hd
    rcases hd with hd | rfl
    · exact hn d hd
    · omega
  · rw [List.take_of_length_le (by omega)] at hn
    have hc := dirsS_count (s.take 1000)
    exact ⟨⟨by omega, fun e he => by have := (splitS_mem he).1; omega⟩, by omega, ⟨by omega, fun d hd => by have := hn d hd; omega⟩, ⟨by omega, fun d hd => by have := hn d hd; omega⟩, by omega⟩
def tb_specLawParses : List Blk → List AV → Option (List Blk × AV × Prop)
  | [], [.str s, a1] => some ([], .bool true, (s.length ≤ maxLen) ∧ ((dec_dirs a1).length ≤ maxLen) ∧ argOK a1 (enc_dirs (dec_dirs a1)))
  | _, _ => none
theorem tb_specLawParses_ok : ∀ E args E' res p, tb_specLawParses E args = some (E', res, p) → p → SpecE Try.prog 25 E args E' res := by
  intro E args E' res p h hp
  unfold tb_specLawParses at h
  split at h
  · simp only [Option.some.injEq, Prod.mk.injEq] at h
    obtain ⟨rfl, rfl, rfl⟩ := h
    exact SpecE.args (specLawParses _ _ hp.1 hp.2.1) (.cons (argOK.refl _) (.cons hp.2.2 .nil))
  · cases h

def T_specLawBack : Tbl := fun g E args => (addT (addT (addT (addT nilT 114 Go.Proofs.Try.Cac.tb_specParse) 116 Go.Proofs.Try.Cac.tb_specText) 103 Go.Proofs.Try.CacR.tb_specSameD) 99 Go.Proofs.Try.CacR.tb_specLives) g E args
theorem T_specLawBack_ok : TblOK Try.prog T_specLawBack := (addT_ok (addT_ok (addT_ok (addT_ok nilT_ok (by decide +kernel) Go.Proofs.Try.Cac.tb_specParse_ok) (by decide +kernel) Go.Proofs.Try.Cac.tb_specText_ok) (by decide +kernel) Go.Proofs.Try.CacR.tb_specSameD_ok) (by decide +kernel) Go.Proofs.Try.CacR.tb_specLives_ok)
set_option maxRecDepth 100000 in
set_option maxHeartbeats 4000000 in
theorem specLawBack (s : List UInt8) (hs : s.length ≤ maxLen) : SpecE Try.prog 26 [] [.str s] [] (.bool true) := by
  refine specF0 (C := T_specLawBack) (wr := false) (D := fun _ => []) (U := fun _ => none) (res := [.bool true]) Try.Ty.mixed T_specLawBack_ok Try.func26 (nA := 1) (by decide +kernel) rfl (fun _ => rfl) ?_
  simp only [Try.f26, bodyOf, rlOf]
  rw [W_V]
  simp (config := {maxSteps := 2000000}) only [T_specLawBack, Go.Proofs.Try.Cac.tb_specParse, Go.Proofs.Try.Cac.tb_specText, Go.Proofs.Try.CacR.tb_specSameD, Go.Proofs.Try.CacR.tb_specLives, go_sem, reduceIte, Nat.reduceEqDiff, Nat.reduceAdd, Nat.reduceMul, Nat.reduceSub, Nat.reduceBEq, Nat.reduceLT, Nat.reduceLeDiff, reduceCtorEq, Int.reduceNeg, Int.reduceEq, String.reduceEq, Int.reduceLT, Int.reduceLE, Int.reduceToNat, Int.reduceAdd, Int.reduceMul, Int.reduceSub]
  (try simp (config := {maxSteps := 2000000}) only [gimp, impB, isT, go_sem, reduceIte, Nat.reduceEqDiff, Nat.reduceAdd, Nat.reduceMul, Nat.reduceSub, Nat.reduceBEq, Nat.reduceLT, Nat.reduceLeDiff, reduceCtorEq, Int.reduceNeg, Int.reduceEq, String.reduceEq, Int.reduceLT, Int.reduceLE, Int.reduceToNat, Int.reduceAdd, Int.reduceMul, Int.reduceSub])
  have ht : (s.take 1000).length ≤ 1000 := by rw [List.length_take]; omega
  generalize s.take 1000 = t at *
  have hc := dirsS_count t
  have hq : ∀ d ∈ dirsS t, d.1.length ≤ 1000 ∧ d.2.1.length ≤ 1000 := fun d hd => by have := dirsS_len hd; omega
  have htl := dirsText_len hq
  have hmul := Nat.mul_le_mul (show (dirsS t).length ≤ 1001 by omega) (Nat.le_refl (3 * 1000 + 5))
  refine ⟨⟨by omega, fun e he => by have := (splitS_mem he).1; omega⟩, fun h => by rw [dirs_bad h]; rfl, fun h => ?_⟩
  obtain ⟨b1, b2, b3, b4⟩ := dirs_back h
  refine ⟨⟨by omega, fun d hd => by have := hq d hd; omega⟩, ⟨by omega, fun e he => ?_⟩, fun _ _ => by omega, ⟨b1, b2⟩, b3.symm⟩
  rw [b4] at he
  obtain ⟨d, hd, rfl⟩ := List.mem_map.1 he
  have h1 := dirText_len d
  have h2 := hq d hd
  omega
def tb_specLawBack : List Blk → List AV → Option (List Blk × AV × Prop)
  | [], [.str s] => some ([], .bool true, (s.length ≤ maxLen))
  | _, _ => none
theorem tb_specLawBack_ok : ∀ E args E' res p, tb_specLawBack E args = some (E', res, p) → p → SpecE Try.prog 26 E args E' res := by
  intro E args E' res p h hp
  unfold tb_specLawBack at h
  split at h
  · simp only [Option.some.injEq, Prod.mk.injEq] at h
    obtain ⟨rfl, rfl, rfl⟩ := h
    exact (specLawBack _ hp)
  · cases h

def T_specLawAsks : Tbl := fun g E args => (addT (addT (addT (addT (addT (addT (addT (addT (addT (addT (addT nilT 70 Go.Proofs.Try.HdrR.tb_specFew) 100 Go.Proofs.Try.Cac.tb_specAge) 101 Go.Proofs.Try.CacR.tb_specAgeR) 102 Go.Proofs.Try.CacR.tb_specFindR) 104 Go.Proofs.Try.Cac.tb_specControl) 105 Go.Proofs.Try.CacR.tb_specControlR) 106 Go.Proofs.Try.Cac.tb_specHas) 107 Go.Proofs.Try.Cac.tb_specPragma) 108 Go.Proofs.Try.CacR.tb_specPragmaR) 103 Go.Proofs.Try.CacR.tb_specSameD) 99 Go.Proofs.Try.CacR.tb_specLives) g E args
theorem T_specLawAsks_ok : TblOK Try.prog T_specLawAsks := (addT_ok (addT_ok (addT_ok (addT_ok (addT_ok (addT_ok (addT_ok (addT_ok (addT_ok (addT_ok (addT_ok nilT_ok (by decide +kernel) Go.Proofs.Try.HdrR.tb_specFew_ok) (by decide +kernel) Go.Proofs.Try.Cac.tb_specAge_ok) (by decide +kernel) Go.Proofs.Try.CacR.tb_specAgeR_ok) (by decide +kernel) Go.Proofs.Try.CacR.tb_specFindR_ok) (by decide +kernel) Go.Proofs.Try.Cac.tb_specControl_ok) (by decide +kernel) Go.Proofs.Try.CacR.tb_specControlR_ok) (by decide +kernel) Go.Proofs.Try.Cac.tb_specHas_ok) (by decide +kernel) Go.Proofs.Try.Cac.tb_specPragma_ok) (by decide +kernel) Go.Proofs.Try.CacR.tb_specPragmaR_ok) (by decide +kernel) Go.Proofs.Try.CacR.tb_specSameD_ok) (by decide +kernel) Go.Proofs.Try.CacR.tb_specLives_ok)
set_option maxRecDepth 100000 in
set_option maxHeartbeats 4000000 in
theorem specLawAsks (l : List Fld) (n : List UInt8) (hl : l.length ≤ maxLen) (hn : n.length ≤ maxLen) : SpecE Try.prog 22 [] [enc_flds l, .str n] [] (.bool true) := by
  refine specF0 (C := T_specLawAsks) (wr := false) (D := fun _ => []) (U := fun _ => none) (res := [.bool true]) Try.Ty.mixed T_specLawAsks_ok Try.func22 (nA := 2) (by decide +kernel) rfl (fun _ => rfl) ?_
  simp only [Try.f22, bodyOf, rlOf]
  rw [W_V]
  simp (config := {maxSteps := 2000000}) only [T_specLawAsks, Go.Proofs.Try.HdrR.tb_specFew, Go.Proofs.Try.Cac.tb_specAge, Go.Proofs.Try.CacR.tb_specAgeR, Go.Proofs.Try.CacR.tb_specFindR, Go.Proofs.Try.Cac.tb_specControl, Go.Proofs.Try.CacR.tb_specControlR, Go.Proofs.Try.Cac.tb_specHas, Go.Proofs.Try.Cac.tb_specPragma, Go.Proofs.Try.CacR.tb_specPragmaR, Go.Proofs.Try.CacR.tb_specSameD, Go.Proofs.Try.CacR.tb_specLives, go_sem, reduceIte, Nat.reduceEqDiff, Nat.reduceAdd, Nat.reduceMul, Nat.reduceSub, Nat.reduceBEq, Nat.reduceLT, Nat.reduceLeDiff, reduceCtorEq, Int.reduceNeg, Int.reduceEq, String.reduceEq, Int.reduceLT, Int.reduceLE, Int.reduceToNat, Int.reduceAdd, Int.reduceMul, Int.reduceSub]
  (try simp (config := {maxSteps := 2000000}) only [gimp, impB, isT, go_sem, reduceIte, Nat.reduceEqDiff, Nat.reduceAdd, Nat.reduceMul, Nat.reduceSub, Nat.reduceBEq, Nat.reduceLT, Nat.reduceLeDiff, reduceCtorEq, Int.reduceNeg, Int.reduceEq, String.reduceEq, Int.reduceLT, Int.reduceLE, Int.reduceToNat, Int.reduceAdd, Int.reduceMul, Int.reduceSub])
  refine ⟨hl, fun hfew hn2 => ?_⟩
  obtain ⟨f1, f2⟩ := fewF_len hfew
  have c1 : l.length ≤ 1000 := by omega
  have c3 : ∀ f ∈ l, f.1.length ≤ 1000000 := fun f h => by have := (f2 f h).1; omega
  have c4 : ∀ f ∈ l, f.2.length ≤ 900 := fun f h => by have := (f2 f h).2; omega
  have hcnt : (ctlS l).length ≤ 2147483647 := by
    have h1 := comb_len3 nmCC c1 c4
    have h2 := dirsS_count (combS l nmCC)
    unfold ctlS; omega
  exact ⟨⟨c1, c4⟩, ⟨c1, c3, c4⟩, ⟨c1, c3, c4, by omega⟩, ⟨c1, c4⟩, ⟨c1, c3, c4⟩, hcnt, ⟨c1, c4, hn⟩, ⟨c1, c4⟩, c1, c3, c4⟩
def tb_specLawAsks : List Blk → List AV → Option (List Blk × AV × Prop)
  | [], [a0, .str n] => some ([], .bool true, ((dec_flds a0).length ≤ maxLen) ∧ (n.length ≤ maxLen) ∧ argOK a0 (enc_flds (dec_flds a0)))
  | _, _ => none
theorem tb_specLawAsks_ok : ∀ E args E' res p, tb_specLawAsks E args = some (E', res, p) → p → SpecE Try.prog 22 E args E' res := by
  intro E args E' res p h hp
  unfold tb_specLawAsks at h
  split at h
  · simp only [Option.some.injEq, Prod.mk.injEq] at h
    obtain ⟨rfl, rfl, rfl⟩ := h
    exact SpecE.args (specLawAsks _ _ hp.1 hp.2.1) (.cons hp.2.2 (.cons (argOK.refl _) .nil))
  · cases h
end Go.Proofs.Try.CacR
