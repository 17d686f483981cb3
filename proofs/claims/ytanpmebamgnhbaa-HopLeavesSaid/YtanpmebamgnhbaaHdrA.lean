/- header: the walk of the law's All. No condition beyond those that a machine's numbers bring. -/
import Derived.Test.YtanpmebamgnhbaaHdrR
set_option linter.unusedVariables false
set_option linter.unusedSimpArgs false
namespace Go.Mdl
open Go Go.Abs
theorem dec_fld_mk (a b : List UInt8) : dec_fld (.agg [.str a, .str b]) = (a, b) := rfl
end Go.Mdl
namespace Go.Proofs.Try.HdrR
open Go Go.Abs Go.Proofs Go.Mdl

def T_specAll : Tbl := fun g E args => (addT nilT 267 Go.Proofs.Try.HdrR.tb_specIs) g E args
theorem T_specAll_ok : TblOK Try.prog T_specAll := (addT_ok nilT_ok (by decide +kernel) Go.Proofs.Try.HdrR.tb_specIs_ok)
set_option maxRecDepth 100000 in
set_option maxHeartbeats 4000000 in
theorem specAll (l : List Fld) (name : List UInt8) (hl : l.length ≤ 1000000) (hn : name.length ≤ 1000000) (hf : ∀ f ∈ l, f.1.length ≤ 1000000) : SpecE Try.prog 185 [] [enc_flds l, .str name] [] (enc_strs (allS l name)) := by
  refine specF0 (C := T_specAll) (wr := false) (D := fun _ => []) (U := fun _ => none) (res := [enc_strs (allS l name)]) Try.Ty.mixed T_specAll_ok Try.func185 (nA := 2) (by decide +kernel) rfl (fun _ => rfl) ?_
  simp only [Try.f185, bodyOf, rlOf]
  rw [W_V]
  simp (config := {maxSteps := 2000000}) only [T_specAll, Go.Proofs.Try.HdrR.tb_specIs, go_sem, reduceIte, Nat.reduceEqDiff, Nat.reduceAdd, Nat.reduceMul, Nat.reduceSub, Nat.reduceBEq, Nat.reduceLT, Nat.reduceLeDiff, reduceCtorEq, Int.reduceNeg, Int.reduceEq, String.reduceEq, Int.reduceLT, Int.reduceLE, Int.reduceToNat, Int.reduceAdd, Int.reduceMul, Int.reduceSub, true_and]
  (try simp (config := {maxSteps := 2000000}) only [gimp, impB, isT, go_sem, reduceIte, Nat.reduceEqDiff, Nat.reduceAdd, Nat.reduceMul, Nat.reduceSub, Nat.reduceBEq, Nat.reduceLT, Nat.reduceLeDiff, reduceCtorEq, Int.reduceNeg, Int.reduceEq, String.reduceEq, Int.reduceLT, Int.reduceLE, Int.reduceToNat, Int.reduceAdd, Int.reduceMul, Int.reduceSub])
  refine VL_inv (X := Nat) (fun k => ⟨[(0, enc_flds l), (1, .str name), (5, .ref 128 0 (allS (l.take k) name).length (allS (l.take k) name).length), (6, .int .i64 k)], [(128, .cells 1 false (.str []) ((allS (l.take k) name).map .str))]⟩) (fun k => k ≤ l.length) (fun k => l.length - k) 0 ?_ ?_ ?_
  · simp only [allS, List.take_zero, List.filter_nil, go_sem, go_sem, reduceIte, Nat.reduceEqDiff, Nat.reduceAdd, Nat.reduceMul, Nat.reduceSub, Nat.reduceBEq, Nat.reduceLT, Nat.reduceLeDiff, reduceCtorEq, Int.reduceNeg, Int.reduceEq, String.reduceEq, Int.reduceLT, Int.reduceLE, Int.reduceToNat, Int.reduceAdd, Int.reduceMul, Int.reduceSub]
    try rfl
  · exact Nat.zero_le _
  rintro k hk
  simp (config := {maxSteps := 2000000}) only [T_specAll, Go.Proofs.Try.HdrR.tb_specIs, go_sem, reduceIte, Nat.reduceEqDiff, Nat.reduceAdd, Nat.reduceMul, Nat.reduceSub, Nat.reduceBEq, Nat.reduceLT, Nat.reduceLeDiff, reduceCtorEq, Int.reduceNeg, Int.reduceEq, String.reduceEq, Int.reduceLT, Int.reduceLE, Int.reduceToNat, Int.reduceAdd, Int.reduceMul, Int.reduceSub, true_and]
  (try simp (config := {maxSteps := 2000000}) only [gimp, impB, isT, go_sem, reduceIte, Nat.reduceEqDiff, Nat.reduceAdd, Nat.reduceMul, Nat.reduceSub, Nat.reduceBEq, Nat.reduceLT, Nat.reduceLeDiff, reduceCtorEq, Int.reduceNeg, Int.reduceEq, String.reduceEq, Int.reduceLT, Int.reduceLE, Int.reduceToNat, Int.reduceAdd, Int.reduceMul, Int.reduceSub])
  have hs := fun h : k < l.length => allS_take_succ (l := l) name h
  have hle := allS_len (l.take k) name
  have hlt' : (l.take k).length ≤ 1000000 := by rw [List.length_take]; omega
  have hi : isN [name] (l.getD k ([], [])) = true ↔ lowerS (l.getD k ([], [])).1 = lowerS name := by rw [isN_one]; simp [foldS, eq_comm]
  refine ⟨fun hlt => ⟨by omega, ⟨hf _ (List.mem_of_getElem? (getD_of_lt (s := l) (d := ([], [])) (by omega))), hn⟩, fun hy => ⟨by omega, by omega, by omega, k + 1, ⟨⟨?_, by omega⟩, ?_⟩, by omega, by omega⟩, fun hno => ⟨by omega, k + 1, ⟨⟨?_, by omega⟩, ?_⟩, by omega, by omega⟩⟩, fun hge => ?_⟩
  · rw [hs (by omega), if_pos (hi.2 hy)]; simp
  · rw [hs (by omega), if_pos (hi.2 hy)]; simp
  · rw [hs (by omega), if_neg (fun h => hno (hi.1 h))]; simp
  · rw [hs (by omega), if_neg (fun h => hno (hi.1 h))]; simp
  · rw [List.take_length, List.take_of_length_le (by omega)]
def tb_specAll : List Blk → List AV → Option (List Blk × AV × Prop)
  | [], [a0, .str name] => some ([], enc_strs (allS (dec_flds a0) name), ((dec_flds a0).length ≤ 1000000) ∧ (name.length ≤ 1000000) ∧ (∀ f ∈ (dec_flds a0), f.1.length ≤ 1000000) ∧ argOK a0 (enc_flds (dec_flds a0)))
  | _, _ => none
theorem tb_specAll_ok : ∀ E args E' res p, tb_specAll E args = some (E', res, p) → p → SpecE Try.prog 185 E args E' res := by
  intro E args E' res p h hp
  unfold tb_specAll at h
  split at h
  · simp only [Option.some.injEq, Prod.mk.injEq] at h
    obtain ⟨rfl, rfl, rfl⟩ := h
    exact SpecE.args (specAll _ _ hp.1 hp.2.1 hp.2.2.1) (.cons hp.2.2.2 (.cons (argOK.refl _) .nil))
  · cases h

def T_specCombined : Tbl := fun g E args => (addT (addT nilT 185 Go.Proofs.Try.HdrR.tb_specAll) 42 Go.Proofs.Try.Lists.tb_specJoinR) g E args
theorem T_specCombined_ok : TblOK Try.prog T_specCombined := (addT_ok (addT_ok nilT_ok (by decide +kernel) Go.Proofs.Try.HdrR.tb_specAll_ok) (by decide +kernel) Go.Proofs.Try.Lists.tb_specJoinR_ok)
set_option maxRecDepth 100000 in
set_option maxHeartbeats 4000000 in
theorem specCombined (l : List Fld) (name : List UInt8) (hl : l.length ≤ 1000) (hn : name.length ≤ 1000000) (hf : ∀ f ∈ l, f.1.length ≤ 1000000) (hv : ∀ f ∈ l, f.2.length ≤ 1000000) : SpecE Try.prog 200 [] [enc_flds l, .str name] [] (.tuple [.str (combS l name), .bool (!decide (allS l name = []))]) := by
  refine specF0 (C := T_specCombined) (wr := false) (D := fun _ => []) (U := fun _ => none) (res := [.str (combS l name), .bool (!decide (allS l name = []))]) Try.Ty.mixed T_specCombined_ok Try.func200 (nA := 2) (by decide +kernel) rfl (fun _ => rfl) ?_
  simp only [Try.f200, bodyOf, rlOf]
  rw [W_V]
  simp (config := {maxSteps := 2000000}) only [T_specCombined, Go.Proofs.Try.HdrR.tb_specAll, Go.Proofs.Try.Lists.tb_specJoinR, go_sem, reduceIte, Nat.reduceEqDiff, Nat.reduceAdd, Nat.reduceMul, Nat.reduceSub, Nat.reduceBEq, Nat.reduceLT, Nat.reduceLeDiff, reduceCtorEq, Int.reduceNeg, Int.reduceEq, String.reduceEq, Int.reduceLT, Int.reduceLE, Int.reduceToNat, Int.reduceAdd, Int.reduceMul, Int.reduceSub]
  (try simp (config := {maxSteps := 2000000}) only [gimp, impB, isT, go_sem, reduceIte, Nat.reduceEqDiff, Nat.reduceAdd, Nat.reduceMul, Nat.reduceSub, Nat.reduceBEq, Nat.reduceLT, Nat.reduceLeDiff, reduceCtorEq, Int.reduceNeg, Int.reduceEq, String.reduceEq, Int.reduceLT, Int.reduceLE, Int.reduceToNat, Int.reduceAdd, Int.reduceMul, Int.reduceSub])
  have := allS_len l name
  refine ⟨⟨by omega, hn, hf⟩, ⟨by omega, fun x hx => ?_⟩, rfl, ?_⟩
  · simp only [allS, List.mem_map, List.mem_filter] at hx
    obtain ⟨f, hx, rfl⟩ := hx
    exact hv f hx.1
  · cases allS l name <;> simp
def tb_specCombined : List Blk → List AV → Option (List Blk × AV × Prop)
  | [], [a0, .str name] => some ([], .tuple [.str (combS (dec_flds a0) name), .bool (!decide (allS (dec_flds a0) name = []))], ((dec_flds a0).length ≤ 1000) ∧ (name.length ≤ 1000000) ∧ (∀ f ∈ (dec_flds a0), f.1.length ≤ 1000000) ∧ (∀ f ∈ (dec_flds a0), f.2.length ≤ 1000000) ∧ argOK a0 (enc_flds (dec_flds a0)))
  | _, _ => none
theorem tb_specCombined_ok : ∀ E args E' res p, tb_specCombined E args = some (E', res, p) → p → SpecE Try.prog 200 E args E' res := by
  intro E args E' res p h hp
  unfold tb_specCombined at h
  split at h
  · simp only [Option.some.injEq, Prod.mk.injEq] at h
    obtain ⟨rfl, rfl, rfl⟩ := h
    exact SpecE.args (specCombined _ _ hp.1 hp.2.1 hp.2.2.1 hp.2.2.2.1) (.cons hp.2.2.2.2 (.cons (argOK.refl _) .nil))
  · cases h

def T_specWithoutR : Tbl := fun g E args => (addT nilT 267 Go.Proofs.Try.HdrR.tb_specIs) g E args
theorem T_specWithoutR_ok : TblOK Try.prog T_specWithoutR := (addT_ok nilT_ok (by decide +kernel) Go.Proofs.Try.HdrR.tb_specIs_ok)
set_option maxRecDepth 100000 in
set_option maxHeartbeats 4000000 in
theorem specWithoutR (l : List Fld) (names : List (List UInt8)) (hl : l.length ≤ 1000000) (hn : names.length ≤ 1000000) (hf : ∀ f ∈ l, f.1.length ≤ 1000000) (hq : ∀ x ∈ names, x.length ≤ 1000000) : SpecE Try.prog 181 [] [enc_flds l, enc_strs names] [] (enc_flds (withoutS l names)) := by
  refine specF0 (C := T_specWithoutR) (wr := false) (D := fun _ => []) (U := fun _ => none) (res := [enc_flds (withoutS l names)]) Try.Ty.mixed T_specWithoutR_ok Try.func181 (nA := 2) (by decide +kernel) rfl (fun _ => rfl) ?_
  simp only [Try.f181, bodyOf, rlOf]
  rw [W_V]
  simp (config := {maxSteps := 2000000}) only [T_specWithoutR, Go.Proofs.Try.HdrR.tb_specIs, go_sem, reduceIte, Nat.reduceEqDiff, Nat.reduceAdd, Nat.reduceMul, Nat.reduceSub, Nat.reduceBEq, Nat.reduceLT, Nat.reduceLeDiff, reduceCtorEq, Int.reduceNeg, Int.reduceEq, String.reduceEq, Int.reduceLT, Int.reduceLE, Int.reduceToNat, Int.reduceAdd, Int.reduceMul, Int.reduceSub, true_and]
  (try simp (config := {maxSteps := 2000000}) only [gimp, impB, isT, go_sem, reduceIte, Nat.reduceEqDiff, Nat.reduceAdd, Nat.reduceMul, Nat.reduceSub, Nat.reduceBEq, Nat.reduceLT, Nat.reduceLeDiff, reduceCtorEq, Int.reduceNeg, Int.reduceEq, String.reduceEq, Int.reduceLT, Int.reduceLE, Int.reduceToNat, Int.reduceAdd, Int.reduceMul, Int.reduceSub])
  refine VL_inv (X := Nat) (fun k => ⟨[(0, enc_flds l), (1, enc_strs names), (5, .ref 160 0 (withoutS (l.take k) names).length (withoutS (l.take k) names).length), (6, .int .i64 k)], [(160, .cells 2 false (.agg [.str [], .str []]) ((withoutS (l.take k) names).map enc_fld))]⟩) (fun k => k ≤ l.length) (fun k => l.length - k) 0 ?_ ?_ ?_
  · simp only [withoutS, List.take_zero, List.filter_nil, go_sem, go_sem, reduceIte, Nat.reduceEqDiff, Nat.reduceAdd, Nat.reduceMul, Nat.reduceSub, Nat.reduceBEq, Nat.reduceLT, Nat.reduceLeDiff, reduceCtorEq, Int.reduceNeg, Int.reduceEq, String.reduceEq, Int.reduceLT, Int.reduceLE, Int.reduceToNat, Int.reduceAdd, Int.reduceMul, Int.reduceSub]
    try rfl
  · exact Nat.zero_le _
  rintro k hk
  simp (config := {maxSteps := 2000000}) only [T_specWithoutR, Go.Proofs.Try.HdrR.tb_specIs, go_sem, reduceIte, Nat.reduceEqDiff, Nat.reduceAdd, Nat.reduceMul, Nat.reduceSub, Nat.reduceBEq, Nat.reduceLT, Nat.reduceLeDiff, reduceCtorEq, Int.reduceNeg, Int.reduceEq, String.reduceEq, Int.reduceLT, Int.reduceLE, Int.reduceToNat, Int.reduceAdd, Int.reduceMul, Int.reduceSub, true_and]
  (try simp (config := {maxSteps := 2000000}) only [gimp, impB, isT, go_sem, reduceIte, Nat.reduceEqDiff, Nat.reduceAdd, Nat.reduceMul, Nat.reduceSub, Nat.reduceBEq, Nat.reduceLT, Nat.reduceLeDiff, reduceCtorEq, Int.reduceNeg, Int.reduceEq, String.reduceEq, Int.reduceLT, Int.reduceLE, Int.reduceToNat, Int.reduceAdd, Int.reduceMul, Int.reduceSub])
  have hle := without_len (l.take k) names
  have hlt' : (l.take k).length ≤ 1000000 := by rw [List.length_take]; omega
  refine ⟨fun hlt => ?_, fun hge => ?_⟩
  · refine VL_inv (X := Nat) (fun j => ⟨[(0, enc_flds l), (1, enc_strs names), (5, .ref 160 0 (withoutS (l.take k) names).length (withoutS (l.take k) names).length), (6, .int .i64 k), (7, .bool (isN (names.take j) (l.getD k ([], [])))), (8, .int .i64 j)], [(160, .cells 2 false (.agg [.str [], .str []]) ((withoutS (l.take k) names).map enc_fld))]⟩) (fun j => j ≤ names.length) (fun j => names.length - j) 0 ?_ ?_ ?_
    · simp only [isN, List.take_zero, List.any_nil, go_sem, go_sem, reduceIte, Nat.reduceEqDiff, Nat.reduceAdd, Nat.reduceMul, Nat.reduceSub, Nat.reduceBEq, Nat.reduceLT, Nat.reduceLeDiff, reduceCtorEq, Int.reduceNeg, Int.reduceEq, String.reduceEq, Int.reduceLT, Int.reduceLE, Int.reduceToNat, Int.reduceAdd, Int.reduceMul, Int.reduceSub]
      try rfl
    · exact Nat.zero_le _
    rintro j hj
    simp (config := {maxSteps := 2000000}) only [T_specWithoutR, Go.Proofs.Try.HdrR.tb_specIs, go_sem, reduceIte, Nat.reduceEqDiff, Nat.reduceAdd, Nat.reduceMul, Nat.reduceSub, Nat.reduceBEq, Nat.reduceLT, Nat.reduceLeDiff, reduceCtorEq, Int.reduceNeg, Int.reduceEq, String.reduceEq, Int.reduceLT, Int.reduceLE, Int.reduceToNat, Int.reduceAdd, Int.reduceMul, Int.reduceSub, true_and]
    (try simp (config := {maxSteps := 2000000}) only [gimp, impB, isT, go_sem, reduceIte, Nat.reduceEqDiff, Nat.reduceAdd, Nat.reduceMul, Nat.reduceSub, Nat.reduceBEq, Nat.reduceLT, Nat.reduceLeDiff, reduceCtorEq, Int.reduceNeg, Int.reduceEq, String.reduceEq, Int.reduceLT, Int.reduceLE, Int.reduceToNat, Int.reduceAdd, Int.reduceMul, Int.reduceSub])
    have hs := fun h : k < l.length => without_take_succ (l := l) names h
    have hf1 : (l.getD k ([], [])).1.length ≤ 1000000 := hf _ (List.mem_of_getElem? (getD_of_lt (s := l) (d := ([], [])) (by omega)))
    have hq1 : ∀ j, j < names.length → (names.getD j []).length ≤ 1000000 := fun j h => hq _ (List.mem_of_getElem? (getD_of_lt (s := names) (d := []) h))
    refine ⟨fun hlt2 => ⟨⟨fun _ => by omega, fun _ => by omega⟩, ⟨fun _ => by omega, fun _ => by omega⟩, ⟨fun _ => hf1, fun _ => hq1 j (by omega)⟩, by omega, j + 1, ⟨?_, by omega⟩, by omega, by omega⟩, fun hge2 => ?_⟩
    · rw [isN_take_succ _ (by omega), foldS]; simp only [eq_comm]
    · have hj2 : names.take j = names := List.take_of_length_le (by omega)
      rw [hj2]
      refine ⟨fun hno => ⟨by omega, by omega, by omega, k + 1, ⟨⟨?_, by omega⟩, ?_⟩, by omega, by omega⟩, fun hy => ⟨by omega, k + 1, ⟨⟨?_, by omega⟩, ?_⟩, by omega, by omega⟩⟩
      · rw [hs (by omega), if_neg (by rw [hno]; simp)]; simp
      · rw [hs (by omega), if_neg (by rw [hno]; simp)]; simp [enc_fld]
      · rw [hs (by omega), if_pos hy]; simp
      · rw [hs (by omega), if_pos hy]; simp
  · rw [List.take_length, List.take_of_length_le (by omega)]
def tb_specWithoutR : List Blk → List AV → Option (List Blk × AV × Prop)
  | [], [a0, a1] => some ([], enc_flds (withoutS (dec_flds a0) (dec_strs a1)), ((dec_flds a0).length ≤ 1000000) ∧ ((dec_strs a1).length ≤ 1000000) ∧ (∀ f ∈ (dec_flds a0), f.1.length ≤ 1000000) ∧ (∀ x ∈ (dec_strs a1), x.length ≤ 1000000) ∧ argOK a0 (enc_flds (dec_flds a0)) ∧ argOK a1 (enc_strs (dec_strs a1)))
  | _, _ => none
theorem tb_specWithoutR_ok : ∀ E args E' res p, tb_specWithoutR E args = some (E', res, p) → p → SpecE Try.prog 181 E args E' res := by
  intro E args E' res p h hp
  unfold tb_specWithoutR at h
  split at h
  · simp only [Option.some.injEq, Prod.mk.injEq] at h
    obtain ⟨rfl, rfl, rfl⟩ := h
    exact SpecE.args (specWithoutR _ _ hp.1 hp.2.1 hp.2.2.1 hp.2.2.2.1) (.cons hp.2.2.2.2.1 (.cons hp.2.2.2.2.2 .nil))
  · cases h

def T_specSetR : Tbl := fun g E args => (addT (addT nilT 267 Go.Proofs.Try.HdrR.tb_specIs) 268 Go.Proofs.Try.HdrR.tb_specWith) g E args
theorem T_specSetR_ok : TblOK Try.prog T_specSetR := (addT_ok (addT_ok nilT_ok (by decide +kernel) Go.Proofs.Try.HdrR.tb_specIs_ok) (by decide +kernel) Go.Proofs.Try.HdrR.tb_specWith_ok)
set_option maxRecDepth 100000 in
set_option maxHeartbeats 4000000 in
theorem specSetR (l : List Fld) (n v : List UInt8) (hl : l.length ≤ 1000000) (hn : n.length ≤ 1000000) (hf : ∀ f ∈ l, f.1.length ≤ 1000000) : SpecE Try.prog 183 [] [enc_flds l, .str n, .str v] [] (enc_flds (setS l n v)) := by
  refine specF0 (C := T_specSetR) (wr := false) (D := fun _ => []) (U := fun _ => none) (res := [enc_flds (setS l n v)]) Try.Ty.mixed T_specSetR_ok Try.func183 (nA := 3) (by decide +kernel) rfl (fun _ => rfl) ?_
  simp only [Try.f183, bodyOf, rlOf]
  rw [W_V]
  simp (config := {maxSteps := 2000000}) only [T_specSetR, Go.Proofs.Try.HdrR.tb_specIs, Go.Proofs.Try.HdrR.tb_specWith, go_sem, reduceIte, Nat.reduceEqDiff, Nat.reduceAdd, Nat.reduceMul, Nat.reduceSub, Nat.reduceBEq, Nat.reduceLT, Nat.reduceLeDiff, reduceCtorEq, Int.reduceNeg, Int.reduceEq, String.reduceEq, Int.reduceLT, Int.reduceLE, Int.reduceToNat, Int.reduceAdd, Int.reduceMul, Int.reduceSub, true_and]
  (try simp (config := {maxSteps := 2000000}) only [gimp, impB, isT, go_sem, reduceIte, Nat.reduceEqDiff, Nat.reduceAdd, Nat.reduceMul, Nat.reduceSub, Nat.reduceBEq, Nat.reduceLT, Nat.reduceLeDiff, reduceCtorEq, Int.reduceNeg, Int.reduceEq, String.reduceEq, Int.reduceLT, Int.reduceLE, Int.reduceToNat, Int.reduceAdd, Int.reduceMul, Int.reduceSub])
  refine VL_inv (X := Nat) (fun k => ⟨[(0, enc_flds l), (1, .str n), (2, .str v), (7, .ref 176 0 (setGo (l.take k) n v).length (setGo (l.take k) n v).length), (8, .bool (hasF (l.take k) n)), (9, .int .i64 k)], [(176, .cells 2 false (.agg [.str [], .str []]) ((setGo (l.take k) n v).map enc_fld))]⟩) (fun k => k ≤ l.length) (fun k => l.length - k) 0 ?_ ?_ ?_
  · simp only [setGo, hasF, List.take_zero, List.any_nil, go_sem, go_sem, reduceIte, Nat.reduceEqDiff, Nat.reduceAdd, Nat.reduceMul, Nat.reduceSub, Nat.reduceBEq, Nat.reduceLT, Nat.reduceLeDiff, reduceCtorEq, Int.reduceNeg, Int.reduceEq, String.reduceEq, Int.reduceLT, Int.reduceLE, Int.reduceToNat, Int.reduceAdd, Int.reduceMul, Int.reduceSub]
    try rfl
  · exact Nat.zero_le _
  rintro k hk
  simp (config := {maxSteps := 2000000}) only [T_specSetR, Go.Proofs.Try.HdrR.tb_specIs, Go.Proofs.Try.HdrR.tb_specWith, go_sem, reduceIte, Nat.reduceEqDiff, Nat.reduceAdd, Nat.reduceMul, Nat.reduceSub, Nat.reduceBEq, Nat.reduceLT, Nat.reduceLeDiff, reduceCtorEq, Int.reduceNeg, Int.reduceEq, String.reduceEq, Int.reduceLT, Int.reduceLE, Int.reduceToNat, Int.reduceAdd, Int.reduceMul, Int.reduceSub, true_and]
  (try simp (config := {maxSteps := 2000000}) only [gimp, impB, isT, go_sem, reduceIte, Nat.reduceEqDiff, Nat.reduceAdd, Nat.reduceMul, Nat.reduceSub, Nat.reduceBEq, Nat.reduceLT, Nat.reduceLeDiff, reduceCtorEq, Int.reduceNeg, Int.reduceEq, String.reduceEq, Int.reduceLT, Int.reduceLE, Int.reduceToNat, Int.reduceAdd, Int.reduceMul, Int.reduceSub])
  have hlt' : (l.take k).length ≤ 1000000 := by rw [List.length_take]; omega
  have hle := setGo_len (l.take k) n v
  have hi : isN [n] (l.getD k ([], [])) = true ↔ lowerS (l.getD k ([], [])).1 = lowerS n := by rw [isN_one]; simp [foldS, eq_comm]
  have hs := fun h : k < l.length => setGo_snoc (l.take k) (l.getD k ([], [])) n v
  have hh := hasF_snoc (l.take k) (l.getD k ([], [])) n
  have ht := fun h : k < l.length => take_succ_getD (s := l) ([], []) h
  refine ⟨fun hlt => ⟨by omega, ⟨hf _ (List.mem_of_getElem? (getD_of_lt (s := l) (d := ([], [])) (by omega))), hn⟩, fun hno => ⟨by omega, by omega, by omega, k + 1, ⟨⟨?_, ?_, by omega⟩, ?_⟩, by omega, by omega⟩, fun hy => ⟨fun hnew => ⟨by omega, by omega, by omega, k + 1, ⟨⟨?_, ?_, by omega⟩, ?_⟩, by omega, by omega⟩, fun hhad => ⟨by omega, k + 1, ⟨⟨?_, ?_, by omega⟩, ?_⟩, by omega, by omega⟩⟩⟩, fun hge => ?_⟩
  · rw [ht (by omega), hs (by omega), if_neg (fun h => hno (hi.1 h))]; simp
  · rw [ht (by omega), hh, Bool.eq_false_iff.2 (fun h => hno (hi.1 h)), Bool.or_false]
  · rw [ht (by omega), hs (by omega), if_neg (fun h => hno (hi.1 h))]; simp [enc_fld]
  · rw [ht (by omega), hs (by omega), if_pos (hi.2 hy), if_neg (by rw [hnew]; simp)]; simp
  · rw [ht (by omega), hh, hi.2 hy, Bool.or_true]
  · rw [ht (by omega), hs (by omega), if_pos (hi.2 hy), if_neg (by rw [hnew]; simp)]; simp [enc_fld]
  · rw [ht (by omega), hs (by omega), if_pos (hi.2 hy), if_pos hhad]; simp
  · rw [ht (by omega), hh, hhad, Bool.true_or]
  · rw [ht (by omega), hs (by omega), if_pos (hi.2 hy), if_pos hhad]; simp
  · rw [List.take_of_length_le (show l.length ≤ k by omega)]
    refine ⟨fun h => ⟨hl, ?_⟩, fun h => ?_⟩
    · rw [List.take_length]; simp [setS, h]
    · rw [List.take_length]; simp [setGo, h]
def tb_specSetR : List Blk → List AV → Option (List Blk × AV × Prop)
  | [], [a0, .str n, .str v] => some ([], enc_flds (setS (dec_flds a0) n v), ((dec_flds a0).length ≤ 1000000) ∧ (n.length ≤ 1000000) ∧ (∀ f ∈ (dec_flds a0), f.1.length ≤ 1000000) ∧ argOK a0 (enc_flds (dec_flds a0)))
  | _, _ => none
theorem tb_specSetR_ok : ∀ E args E' res p, tb_specSetR E args = some (E', res, p) → p → SpecE Try.prog 183 E args E' res := by
  intro E args E' res p h hp
  unfold tb_specSetR at h
  split at h
  · simp only [Option.some.injEq, Prod.mk.injEq] at h
    obtain ⟨rfl, rfl, rfl⟩ := h
    exact SpecE.args (specSetR _ _ _ hp.1 hp.2.1 hp.2.2.1) (.cons hp.2.2.2 (.cons (argOK.refl _) (.cons (argOK.refl _) .nil)))
  · cases h

def T_specSameF : Tbl := fun g E args => nilT g E args
theorem T_specSameF_ok : TblOK Try.prog T_specSameF := nilT_ok
set_option maxRecDepth 100000 in
set_option maxHeartbeats 4000000 in
theorem specSameF (a b : List Fld) (h : a.length ≤ 2147483647) : SpecE Try.prog 74 [] [enc_flds a, enc_flds b] [] (.bool (decide (a = b))) := by
  refine specF0 (C := T_specSameF) (wr := false) (D := fun _ => []) (U := fun _ => none) (res := [.bool (decide (a = b))]) Try.Ty.mixed T_specSameF_ok Try.func74 (nA := 2) (by decide +kernel) rfl (fun _ => rfl) ?_
  simp only [Try.f74, bodyOf, rlOf]
  rw [W_V]
  simp (config := {maxSteps := 2000000}) only [T_specSameF, go_sem, reduceIte, Nat.reduceEqDiff, Nat.reduceAdd, Nat.reduceMul, Nat.reduceSub, Nat.reduceBEq, Nat.reduceLT, Nat.reduceLeDiff, reduceCtorEq, Int.reduceNeg, Int.reduceEq, String.reduceEq, Int.reduceLT, Int.reduceLE, Int.reduceToNat, Int.reduceAdd, Int.reduceMul, Int.reduceSub]
  (try simp (config := {maxSteps := 2000000}) only [gimp, impB, isT, go_sem, reduceIte, Nat.reduceEqDiff, Nat.reduceAdd, Nat.reduceMul, Nat.reduceSub, Nat.reduceBEq, Nat.reduceLT, Nat.reduceLeDiff, reduceCtorEq, Int.reduceNeg, Int.reduceEq, String.reduceEq, Int.reduceLT, Int.reduceLE, Int.reduceToNat, Int.reduceAdd, Int.reduceMul, Int.reduceSub])
  refine ⟨fun hne => ?_, fun heq => ?_⟩
  · symm; rw [decide_eq_false_iff_not]; rintro rfl; exact hne rfl
  have hl : a.length = b.length := by omega
  refine VL_inv (X := Nat) (fun x => ⟨[(0, enc_flds a), (1, enc_flds b), (5, .int .i64 x)], []⟩) (fun x => x ≤ a.length ∧ a.take x = b.take x) (fun x => a.length - x) 0 ?_ ?_ ?_
  · simp only [go_sem, go_sem, reduceIte, Nat.reduceEqDiff, Nat.reduceAdd, Nat.reduceMul, Nat.reduceSub, Nat.reduceBEq, Nat.reduceLT, Nat.reduceLeDiff, reduceCtorEq, Int.reduceNeg, Int.reduceEq, String.reduceEq, Int.reduceLT, Int.reduceLE, Int.reduceToNat, Int.reduceAdd, Int.reduceMul, Int.reduceSub]
    try rfl
  · exact ⟨Nat.zero_le _, by simp⟩
  rintro x ⟨hx, hn⟩
  simp (config := {maxSteps := 2000000}) only [T_specSameF, go_sem, reduceIte, Nat.reduceEqDiff, Nat.reduceAdd, Nat.reduceMul, Nat.reduceSub, Nat.reduceBEq, Nat.reduceLT, Nat.reduceLeDiff, reduceCtorEq, Int.reduceNeg, Int.reduceEq, String.reduceEq, Int.reduceLT, Int.reduceLE, Int.reduceToNat, Int.reduceAdd, Int.reduceMul, Int.reduceSub]
  (try simp (config := {maxSteps := 2000000}) only [gimp, impB, isT, go_sem, reduceIte, Nat.reduceEqDiff, Nat.reduceAdd, Nat.reduceMul, Nat.reduceSub, Nat.reduceBEq, Nat.reduceLT, Nat.reduceLeDiff, reduceCtorEq, Int.reduceNeg, Int.reduceEq, String.reduceEq, Int.reduceLT, Int.reduceLE, Int.reduceToNat, Int.reduceAdd, Int.reduceMul, Int.reduceSub])
  refine ⟨fun hlt => ?_, fun hge => ?_⟩
  · obtain ⟨h1, h2⟩ := same_step (a := a) (b := b) (x := x) ([], []) hl (by omega) hn
    refine ⟨by omega, by omega, fun he => ?_, fun e1 e2 => ⟨by omega, x + 1, by omega, ⟨by omega, h1 (Prod.ext e1 e2)⟩, by omega⟩⟩
    have : a ≠ b := h2 (fun e => by rw [e] at he; simp at he)
    simp [this]
  · have : x = a.length := by omega
    subst this
    rw [List.take_length, hl, List.take_length] at hn
    simp [hn]
def tb_specSameF : List Blk → List AV → Option (List Blk × AV × Prop)
  | [], [a0, a1] => some ([], .bool (decide ((dec_flds a0) = (dec_flds a1))), ((dec_flds a0).length ≤ 2147483647) ∧ argOK a0 (enc_flds (dec_flds a0)) ∧ argOK a1 (enc_flds (dec_flds a1)))
  | _, _ => none
theorem tb_specSameF_ok : ∀ E args E' res p, tb_specSameF E args = some (E', res, p) → p → SpecE Try.prog 74 E args E' res := by
  intro E args E' res p h hp
  unfold tb_specSameF at h
  split at h
  · simp only [Option.some.injEq, Prod.mk.injEq] at h
    obtain ⟨rfl, rfl, rfl⟩ := h
    exact SpecE.args (specSameF _ _ hp.1) (.cons hp.2.1 (.cons hp.2.2 .nil))
  · cases h

def T_specFew : Tbl := fun g E args => nilT g E args
theorem T_specFew_ok : TblOK Try.prog T_specFew := nilT_ok
set_option maxRecDepth 100000 in
set_option maxHeartbeats 4000000 in
theorem specFew (l : List Fld) (h : l.length ≤ maxLen) : SpecE Try.prog 70 [] [enc_flds l] [] (.bool (fewF l)) := by
  refine specF0 (C := T_specFew) (wr := false) (D := fun _ => []) (U := fun _ => none) (res := [.bool (fewF l)]) Try.Ty.mixed T_specFew_ok Try.func70 (nA := 1) (by decide +kernel) rfl (fun _ => rfl) ?_
  simp only [Try.f70, bodyOf, rlOf]
  rw [W_V]
  simp (config := {maxSteps := 2000000}) only [T_specFew, go_sem, reduceIte, Nat.reduceEqDiff, Nat.reduceAdd, Nat.reduceMul, Nat.reduceSub, Nat.reduceBEq, Nat.reduceLT, Nat.reduceLeDiff, reduceCtorEq, Int.reduceNeg, Int.reduceEq, String.reduceEq, Int.reduceLT, Int.reduceLE, Int.reduceToNat, Int.reduceAdd, Int.reduceMul, Int.reduceSub]
  (try simp (config := {maxSteps := 2000000}) only [gimp, impB, isT, go_sem, reduceIte, Nat.reduceEqDiff, Nat.reduceAdd, Nat.reduceMul, Nat.reduceSub, Nat.reduceBEq, Nat.reduceLT, Nat.reduceLeDiff, reduceCtorEq, Int.reduceNeg, Int.reduceEq, String.reduceEq, Int.reduceLT, Int.reduceLE, Int.reduceToNat, Int.reduceAdd, Int.reduceMul, Int.reduceSub])
  refine ⟨fun h => by simp [fewF]; omega, fun h40 => ?_⟩
  refine VL_inv (X := Nat) (fun k => ⟨[(8, enc_flds l), (9, .int .i64 l.length), (10, .int .i64 k)], []⟩) (fun k => k ≤ l.length ∧ (l.take k).all shortF = true) (fun k => l.length - k) 0 ?_ ?_ ?_
  · simp only [go_sem, go_sem, reduceIte, Nat.reduceEqDiff, Nat.reduceAdd, Nat.reduceMul, Nat.reduceSub, Nat.reduceBEq, Nat.reduceLT, Nat.reduceLeDiff, reduceCtorEq, Int.reduceNeg, Int.reduceEq, String.reduceEq, Int.reduceLT, Int.reduceLE, Int.reduceToNat, Int.reduceAdd, Int.reduceMul, Int.reduceSub]
    try rfl
  · exact ⟨Nat.zero_le _, by simp⟩
  rintro k ⟨hk, hn⟩
  simp (config := {maxSteps := 2000000}) only [T_specFew, go_sem, reduceIte, Nat.reduceEqDiff, Nat.reduceAdd, Nat.reduceMul, Nat.reduceSub, Nat.reduceBEq, Nat.reduceLT, Nat.reduceLeDiff, reduceCtorEq, Int.reduceNeg, Int.reduceEq, String.reduceEq, Int.reduceLT, Int.reduceLE, Int.reduceToNat, Int.reduceAdd, Int.reduceMul, Int.reduceSub]
  (try simp (config := {maxSteps := 2000000}) only [gimp, impB, isT, go_sem, reduceIte, Nat.reduceEqDiff, Nat.reduceAdd, Nat.reduceMul, Nat.reduceSub, Nat.reduceBEq, Nat.reduceLT, Nat.reduceLeDiff, reduceCtorEq, Int.reduceNeg, Int.reduceEq, String.reduceEq, Int.reduceLT, Int.reduceLE, Int.reduceToNat, Int.reduceAdd, Int.reduceMul, Int.reduceSub])
  have hmem : k < l.length → l.getD k ([], []) ∈ l := fun h => List.mem_of_getElem? (getD_of_lt (s := l) (d := ([], [])) h)
  (repeat' (first | refine And.intro ?_ ?_ | intro _))
  all_goals (try first | omega | assumption | contradiction)
  · rename_i h1 h2
    have hs : shortF (l.getD k ([], [])) = false := by
      simp only [shortF, Bool.and_eq_false_iff, decide_eq_false_iff_not]; omega
    have : l.all shortF = false := List.all_eq_false.2 ⟨_, hmem (by omega), by rw [hs]; simp⟩
    simp [fewF, this]
  · rename_i h1 h2 h3
    refine ⟨k + 1, by omega, ⟨by omega, ?_⟩, by omega⟩
    rw [take_succ_getD ([], []) (by omega), List.all_append, hn]
    simp only [List.all_cons, List.all_nil, Bool.and_true, Bool.true_and, shortF, Bool.and_eq_true, decide_eq_true_eq]
    omega
  · have : k = l.length := by omega
    subst this
    rw [List.take_length] at hn
    simp [fewF, hn]; omega
def tb_specFew : List Blk → List AV → Option (List Blk × AV × Prop)
  | [], [a0] => some ([], .bool (fewF (dec_flds a0)), ((dec_flds a0).length ≤ maxLen) ∧ argOK a0 (enc_flds (dec_flds a0)))
  | _, _ => none
theorem tb_specFew_ok : ∀ E args E' res p, tb_specFew E args = some (E', res, p) → p → SpecE Try.prog 70 E args E' res := by
  intro E args E' res p h hp
  unfold tb_specFew at h
  split at h
  · simp only [Option.some.injEq, Prod.mk.injEq] at h
    obtain ⟨rfl, rfl, rfl⟩ := h
    exact SpecE.args (specFew _ hp.1) (.cons hp.2 .nil)
  · cases h
end Go.Proofs.Try.HdrR
