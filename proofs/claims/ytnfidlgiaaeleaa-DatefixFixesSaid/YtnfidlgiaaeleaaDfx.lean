/- datefix: the walks of the program. No condition beyond those that a machine's numbers bring. -/
import Derived.Test.YtnfidlgiaaeleaaHdtX
import Derived.Test.YtnfidlgiaaeleaaHdrF
import Derived.Test.YtnfidlgiaaeleaaSlc
set_option linter.unusedVariables false
set_option linter.unusedSimpArgs false
namespace Go.Proofs.Try.Dfx
open Go Go.Abs Go.Proofs Go.Mdl Go.Proofs.Try.Hdt

/-- The names of the fields that have dates. -/
def dfNames : List (List UInt8) := [[68, 97, 116, 101], [69, 120, 112, 105, 114, 101, 115], [76, 97, 115, 116, 45, 77, 111, 100, 105, 102, 105, 101, 100], [73, 102, 45, 77, 111, 100, 105, 102, 105, 101, 100, 45, 83, 105, 110, 99, 101], [73, 102, 45, 85, 110, 109, 111, 100, 105, 102, 105, 101, 100, 45, 83, 105, 110, 99, 101]]
def datedB (n : List UInt8) : Bool := dfNames.any fun s => foldS s n
def dfixF (now : Int) (f : Fld) : Fld := if datedB f.1 = true then (f.1, fixH f.2 now) else f
def dfixS (now : Int) (l : List Fld) : List Fld := l.map (dfixF now)

def T_specNames : Tbl := fun g E args => nilT g E args
theorem T_specNames_ok : TblOK Try.prog T_specNames := nilT_ok
set_option maxRecDepth 100000 in
set_option maxHeartbeats 4000000 in
theorem specNames : SpecE Try.prog 61 [] [] [] (.agg (dfNames.map .str)) := by
  refine specF0 (C := T_specNames) (wr := false) (D := fun _ => []) (U := fun _ => none) (res := [.agg (dfNames.map .str)]) Try.Ty.mixed T_specNames_ok Try.func61 (nA := 0) (by decide +kernel) rfl (fun _ => rfl) ?_
  simp only [Try.f61, bodyOf, rlOf]
  rw [W_V]
  simp (config := {maxSteps := 2000000}) only [T_specNames, go_sem, reduceIte, Nat.reduceEqDiff, Nat.reduceAdd, Nat.reduceMul, Nat.reduceDiv, Nat.reduceMod, Nat.reduceSub, Nat.reduceBEq, Nat.reduceLT, Nat.reduceLeDiff, reduceCtorEq, Int.reduceNeg, Int.reduceEq, String.reduceEq, Int.reduceLT, Int.reduceLE, Int.reduceToNat, Int.reduceAdd, Int.reduceMul, Int.reduceSub, dfNames]
  (try simp (config := {maxSteps := 2000000}) only [gimp, impB, isT, go_sem, reduceIte, Nat.reduceEqDiff, Nat.reduceAdd, Nat.reduceMul, Nat.reduceDiv, Nat.reduceMod, Nat.reduceSub, Nat.reduceBEq, Nat.reduceLT, Nat.reduceLeDiff, reduceCtorEq, Int.reduceNeg, Int.reduceEq, String.reduceEq, Int.reduceLT, Int.reduceLE, Int.reduceToNat, Int.reduceAdd, Int.reduceMul, Int.reduceSub])
def tb_specNames : List Blk → List AV → Option (List Blk × AV × Prop)
  | [], [] => some ([], .agg (dfNames.map .str), True)
  | _, _ => none
theorem tb_specNames_ok : ∀ E args E' res p, tb_specNames E args = some (E', res, p) → p → SpecE Try.prog 61 E args E' res := by
  intro E args E' res p h hp
  unfold tb_specNames at h
  split at h
  · simp only [Option.some.injEq, Prod.mk.injEq] at h
    obtain ⟨rfl, rfl, rfl⟩ := h
    exact specNames
  · cases h

def T_specFoldN : Tbl := fun g E args => (addT nilT 64 Go.Proofs.Try.Oct.tb_specFold) g E args
theorem T_specFoldN_ok : TblOK Try.prog T_specFoldN := (addT_ok nilT_ok (by decide +kernel) Go.Proofs.Try.Oct.tb_specFold_ok)
set_option maxRecDepth 100000 in
set_option maxHeartbeats 4000000 in
theorem specFoldN (s w : List UInt8) (hs : s.length ≤ maxLen) : SpecE Try.prog 63 [.cells 1 false (.str []) [.str w]] [.str s, .ptr 0 0 0 1] [.cells 1 false (.str []) [.str w]] (.bool (foldS s w)) := by
  refine specFE (C := T_specFoldN) (wr := false) (D := fun _ => []) (U := fun _ => none) (E := [.cells 1 false (.str []) [.str w]]) (E' := [.cells 1 false (.str []) [.str w]]) (res := [.bool (foldS s w)]) [] Try.Ty.mixed T_specFoldN_ok Try.func63 (args := [.str s, .ptr 0 0 0 1]) (nE := 1) (nA := 2) (by decide +kernel) rfl rfl ?_
  simp only [Try.f63, bodyOf, rlOf]
  rw [W_V]
  simp (config := {maxSteps := 2000000}) only [T_specFoldN, Go.Proofs.Try.Oct.tb_specFold, go_sem, reduceIte, Nat.reduceEqDiff, Nat.reduceAdd, Nat.reduceMul, Nat.reduceDiv, Nat.reduceMod, Nat.reduceSub, Nat.reduceBEq, Nat.reduceLT, Nat.reduceLeDiff, reduceCtorEq, Int.reduceNeg, Int.reduceEq, String.reduceEq, Int.reduceLT, Int.reduceLE, Int.reduceToNat, Int.reduceAdd, Int.reduceMul, Int.reduceSub]
  (try simp (config := {maxSteps := 2000000}) only [gimp, impB, isT, go_sem, reduceIte, Nat.reduceEqDiff, Nat.reduceAdd, Nat.reduceMul, Nat.reduceDiv, Nat.reduceMod, Nat.reduceSub, Nat.reduceBEq, Nat.reduceLT, Nat.reduceLeDiff, reduceCtorEq, Int.reduceNeg, Int.reduceEq, String.reduceEq, Int.reduceLT, Int.reduceLE, Int.reduceToNat, Int.reduceAdd, Int.reduceMul, Int.reduceSub])
  exact hs
def tb_specFoldN : List Blk → List AV → Option (List Blk × AV × Prop)
  | [.cells 1 false d [.str w]], [.str s, .ptr 0 0 0 1] => some ([.cells 1 false (.str []) [.str w]], .bool (foldS s w), (d = .str []) ∧ (s.length ≤ maxLen))
  | _, _ => none
theorem tb_specFoldN_ok : ∀ E args E' res p, tb_specFoldN E args = some (E', res, p) → p → SpecE Try.prog 63 E args E' res := by
  intro E args E' res p h hp
  unfold tb_specFoldN at h
  split at h
  · simp only [Option.some.injEq, Prod.mk.injEq] at h
    obtain ⟨rfl, rfl, rfl⟩ := h
    obtain ⟨rfl, hp⟩ := hp
    exact (specFoldN _ _ hp)
  · cases h

def T_specFoldIdx : Tbl := fun g E args => nilT g E args
theorem T_specFoldIdx_ok : TblOK Try.prog T_specFoldIdx := nilT_ok
set_option maxRecDepth 100000 in
set_option maxHeartbeats 4000000 in
theorem specFoldIdx (w : List UInt8) : SpecE Try.prog 90 [.cells 1 false (.str []) (dfNames.map .str), .cells 1 false (.str []) [.str w]] [.ref 0 0 5 5, .clo 63 0 [.ptr 1 0 0 1]] [.cells 1 false (.str []) (dfNames.map .str), .cells 1 false (.str []) [.str w]] (.int .i64 (idxP (fun s => foldS s w) dfNames)) := by
  exact Slc.idxO_S (by decide) (boxStr w) (fun _ => rfl) (q := fun x => x.length ≤ maxLen) (fun x hx => specFoldN x w hx) dfNames (by decide) (by decide) 5 5 rfl rfl
def tb_specFoldIdx : List Blk → List AV → Option (List Blk × AV × Prop)
  | [.cells 1 false d c, .cells 1 false d2 [.str w]], [.ref 0 0 5 5, .clo 63 0 [.ptr 1 0 0 1]] => some ([.cells 1 false d c, .cells 1 false (.str []) [.str w]], .int .i64 (idxP (fun s => foldS s w) dfNames), d = .str [] ∧ d2 = .str [] ∧ c = dfNames.map .str)
  | _, _ => none
theorem tb_specFoldIdx_ok : ∀ E args E' res q, tb_specFoldIdx E args = some (E', res, q) → q → SpecE Try.prog 90 E args E' res := by
  intro E args E' res q h hq
  unfold tb_specFoldIdx at h
  split at h
  · simp only [Option.some.injEq, Prod.mk.injEq] at h
    obtain ⟨rfl, rfl, rfl⟩ := h
    obtain ⟨rfl, rfl, rfl⟩ := hq
    exact specFoldIdx _
  · cases h

def T_specFoldHas : Tbl := fun g E args => (addT nilT 90 Go.Proofs.Try.Dfx.tb_specFoldIdx) g E args
theorem T_specFoldHas_ok : TblOK Try.prog T_specFoldHas := (addT_ok nilT_ok (by decide +kernel) Go.Proofs.Try.Dfx.tb_specFoldIdx_ok)
set_option maxRecDepth 100000 in
set_option maxHeartbeats 4000000 in
theorem specFoldHas (w : List UInt8) : SpecE Try.prog 62 [.cells 1 false (.str []) (dfNames.map .str), .cells 1 false (.str []) [.str w]] [.ref 0 0 5 5, .clo 63 0 [.ptr 1 0 0 1]] [.cells 1 false (.str []) (dfNames.map .str), .cells 1 false (.str []) [.str w]] (.bool (datedB w)) := by
  refine specFE (C := T_specFoldHas) (wr := false) (D := fun _ => []) (U := fun _ => none) (E := [.cells 1 false (.str []) (dfNames.map .str), .cells 1 false (.str []) [.str w]]) (E' := [.cells 1 false (.str []) (dfNames.map .str), .cells 1 false (.str []) [.str w]]) (res := [.bool (datedB w)]) [] Try.Ty.mixed T_specFoldHas_ok Try.func62 (args := [.ref 0 0 5 5, .clo 63 0 [.ptr 1 0 0 1]]) (nE := 2) (nA := 2) (by decide +kernel) rfl rfl ?_
  simp only [Try.f62, bodyOf, rlOf]
  rw [W_V]
  simp (config := {maxSteps := 2000000}) only [T_specFoldHas, Go.Proofs.Try.Dfx.tb_specFoldIdx, go_sem, reduceIte, Nat.reduceEqDiff, Nat.reduceAdd, Nat.reduceMul, Nat.reduceDiv, Nat.reduceMod, Nat.reduceSub, Nat.reduceBEq, Nat.reduceLT, Nat.reduceLeDiff, reduceCtorEq, Int.reduceNeg, Int.reduceEq, String.reduceEq, Int.reduceLT, Int.reduceLE, Int.reduceToNat, Int.reduceAdd, Int.reduceMul, Int.reduceSub]
  (try simp (config := {maxSteps := 2000000}) only [gimp, impB, isT, go_sem, reduceIte, Nat.reduceEqDiff, Nat.reduceAdd, Nat.reduceMul, Nat.reduceDiv, Nat.reduceMod, Nat.reduceSub, Nat.reduceBEq, Nat.reduceLT, Nat.reduceLeDiff, reduceCtorEq, Int.reduceNeg, Int.reduceEq, String.reduceEq, Int.reduceLT, Int.reduceLE, Int.reduceToNat, Int.reduceAdd, Int.reduceMul, Int.reduceSub])
  rw [Bool.eq_iff_iff, decide_eq_true_eq, idxP_ge]; rfl
def tb_specFoldHas : List Blk → List AV → Option (List Blk × AV × Prop)
  | [.cells 1 false d c, .cells 1 false d2 [.str w]], [.ref 0 0 5 5, .clo 63 0 [.ptr 1 0 0 1]] => some ([.cells 1 false d c, .cells 1 false (.str []) [.str w]], .bool (datedB w), d = .str [] ∧ d2 = .str [] ∧ c = dfNames.map .str)
  | _, _ => none
theorem tb_specFoldHas_ok : ∀ E args E' res q, tb_specFoldHas E args = some (E', res, q) → q → SpecE Try.prog 62 E args E' res := by
  intro E args E' res q h hq
  unfold tb_specFoldHas at h
  split at h
  · simp only [Option.some.injEq, Prod.mk.injEq] at h
    obtain ⟨rfl, rfl, rfl⟩ := h
    obtain ⟨rfl, rfl, rfl⟩ := hq
    exact specFoldHas _
  · cases h

def T_specDated : Tbl := fun g E args => (addT (addT nilT 61 Go.Proofs.Try.Dfx.tb_specNames) 62 Go.Proofs.Try.Dfx.tb_specFoldHas) g E args
theorem T_specDated_ok : TblOK Try.prog T_specDated := (addT_ok (addT_ok nilT_ok (by decide +kernel) Go.Proofs.Try.Dfx.tb_specNames_ok) (by decide +kernel) Go.Proofs.Try.Dfx.tb_specFoldHas_ok)
set_option maxRecDepth 100000 in
set_option maxHeartbeats 4000000 in
theorem specDated (w : List UInt8) : SpecE Try.prog 28 [] [.str w] [] (.bool (datedB w)) := by
  refine specF0 (C := T_specDated) (wr := false) (D := fun _ => []) (U := fun _ => none) (res := [.bool (datedB w)]) Try.Ty.mixed T_specDated_ok Try.func28 (nA := 1) (by decide +kernel) rfl (fun _ => rfl) ?_
  simp only [Try.f28, bodyOf, rlOf]
  rw [W_V]
  simp (config := {maxSteps := 2000000}) only [T_specDated, Go.Proofs.Try.Dfx.tb_specNames, Go.Proofs.Try.Dfx.tb_specFoldHas, go_sem, reduceIte, Nat.reduceEqDiff, Nat.reduceAdd, Nat.reduceMul, Nat.reduceDiv, Nat.reduceMod, Nat.reduceSub, Nat.reduceBEq, Nat.reduceLT, Nat.reduceLeDiff, reduceCtorEq, Int.reduceNeg, Int.reduceEq, String.reduceEq, Int.reduceLT, Int.reduceLE, Int.reduceToNat, Int.reduceAdd, Int.reduceMul, Int.reduceSub, dfNames]
  (try simp (config := {maxSteps := 2000000}) only [gimp, impB, isT, go_sem, reduceIte, Nat.reduceEqDiff, Nat.reduceAdd, Nat.reduceMul, Nat.reduceDiv, Nat.reduceMod, Nat.reduceSub, Nat.reduceBEq, Nat.reduceLT, Nat.reduceLeDiff, reduceCtorEq, Int.reduceNeg, Int.reduceEq, String.reduceEq, Int.reduceLT, Int.reduceLE, Int.reduceToNat, Int.reduceAdd, Int.reduceMul, Int.reduceSub])
def tb_specDated : List Blk → List AV → Option (List Blk × AV × Prop)
  | [], [.str w] => some ([], .bool (datedB w), True)
  | _, _ => none
theorem tb_specDated_ok : ∀ E args E' res p, tb_specDated E args = some (E', res, p) → p → SpecE Try.prog 28 E args E' res := by
  intro E args E' res p h hp
  unfold tb_specDated at h
  split at h
  · simp only [Option.some.injEq, Prod.mk.injEq] at h
    obtain ⟨rfl, rfl, rfl⟩ := h
    exact (specDated _)
  · cases h

def T_specClone : Tbl := fun g E args => nilT g E args
theorem T_specClone_ok : TblOK Try.prog T_specClone := nilT_ok
set_option maxRecDepth 100000 in
set_option maxHeartbeats 4000000 in
theorem specClone (l : List Fld) (hl : l.length ≤ 1000000) : SpecE Try.prog 60 [] [enc_flds l] [.cells 2 false (.agg [.str [], .str []]) (l.map enc_fld)] (.ref 0 0 l.length l.length) := by
  refine specFE (C := T_specClone) (wr := false) (D := fun _ => []) (U := fun _ => none) (E := []) (E' := [.cells 2 false (.agg [.str [], .str []]) (l.map enc_fld)]) (res := [.ref 0 0 l.length l.length]) [96] Try.Ty.mixed T_specClone_ok Try.func60 (args := [enc_flds l]) (nE := 0) (nA := 1) (by decide +kernel) rfl rfl ?_
  simp only [Try.f60, bodyOf, rlOf]
  rw [W_V]
  simp (config := {maxSteps := 2000000}) only [T_specClone, go_sem, reduceIte, Nat.reduceEqDiff, Nat.reduceAdd, Nat.reduceMul, Nat.reduceDiv, Nat.reduceMod, Nat.reduceSub, Nat.reduceBEq, Nat.reduceLT, Nat.reduceLeDiff, reduceCtorEq, Int.reduceNeg, Int.reduceEq, String.reduceEq, Int.reduceLT, Int.reduceLE, Int.reduceToNat, Int.reduceAdd, Int.reduceMul, Int.reduceSub]
  (try simp (config := {maxSteps := 2000000}) only [gimp, impB, isT, go_sem, reduceIte, Nat.reduceEqDiff, Nat.reduceAdd, Nat.reduceMul, Nat.reduceDiv, Nat.reduceMod, Nat.reduceSub, Nat.reduceBEq, Nat.reduceLT, Nat.reduceLeDiff, reduceCtorEq, Int.reduceNeg, Int.reduceEq, String.reduceEq, Int.reduceLT, Int.reduceLE, Int.reduceToNat, Int.reduceAdd, Int.reduceMul, Int.reduceSub])
  refine ⟨fun h => ?_, by omega⟩
  have h0 : l = [] := by simpa using h
  subst h0
  simp
def tb_specClone : List Blk → List AV → Option (List Blk × AV × Prop)
  | [], [a0] => some ([.cells 2 false (.agg [.str [], .str []]) ((dec_flds a0).map enc_fld)], .ref 0 0 (dec_flds a0).length (dec_flds a0).length, ((dec_flds a0).length ≤ 1000000) ∧ argOK a0 (enc_flds (dec_flds a0)))
  | _, _ => none
theorem tb_specClone_ok : ∀ E args E' res p, tb_specClone E args = some (E', res, p) → p → SpecE Try.prog 60 E args E' res := by
  intro E args E' res p h hp
  unfold tb_specClone at h
  split at h
  · simp only [Option.some.injEq, Prod.mk.injEq] at h
    obtain ⟨rfl, rfl, rfl⟩ := h
    exact SpecE.args (specClone _ hp.1) (.cons hp.2 .nil)
  · cases h

theorem dfix_step (now : Int) {l : List Fld} {k : Nat} (h : k < l.length) : (dfixS now (l.take k) ++ l.drop k).set k (dfixF now (l.getD k ([], []))) = dfixS now (l.take (k + 1)) ++ l.drop (k + 1) := by
  have hl : (dfixS now (l.take k)).length = k := by simp [dfixS]; omega
  rw [List.set_append_right _ _ (by omega), hl, Nat.sub_self, take_succ_getD ([], []) h]
  have hd : l.drop k = l.getD k ([], []) :: l.drop (k + 1) := by
    rw [List.drop_eq_getElem_cons h]; congr 1
    rw [List.getD_eq_getElem?_getD, List.getElem?_eq_getElem h]; rfl
  rw [hd, List.set_cons_zero]
  simp [dfixS]
theorem dfix_at (now : Int) {l : List Fld} {k : Nat} (h : k < l.length) : (dfixS now (l.take k) ++ l.drop k).getD k ([], []) = l.getD k ([], []) := by
  have hl : (dfixS now (l.take k)).length = k := by simp [dfixS]; omega
  rw [List.getD_eq_getElem?_getD, List.getElem?_append_right (by omega), hl, Nat.sub_self, List.getElem?_drop, Nat.add_zero, ← List.getD_eq_getElem?_getD]
theorem dfix_len (now : Int) (l : List Fld) (k : Nat) : (dfixS now (l.take k) ++ l.drop k).length = l.length := by simp [dfixS]; omega

def T_specFix : Tbl := fun g E args => (addT (addT (addT nilT 60 Go.Proofs.Try.Dfx.tb_specClone) 28 Go.Proofs.Try.Dfx.tb_specDated) 16 Go.Proofs.Try.Hdt.tb_specFixH) g E args
theorem T_specFix_ok : TblOK Try.prog T_specFix := (addT_ok (addT_ok (addT_ok nilT_ok (by decide +kernel) Go.Proofs.Try.Dfx.tb_specClone_ok) (by decide +kernel) Go.Proofs.Try.Dfx.tb_specDated_ok) (by decide +kernel) Go.Proofs.Try.Hdt.tb_specFixH_ok)
set_option maxRecDepth 100000 in
set_option maxHeartbeats 4000000 in
theorem specFix (l : List Fld) (now : Int) (hl : l.length ≤ 1000000) (hf : ∀ f ∈ l, f.2.length ≤ 1000000) (hn : inR .i64 now) : SpecE Try.prog 26 [] [enc_flds l, .int .i64 now] [.cells 2 false (.agg [.str [], .str []]) ((dfixS now l).map enc_fld)] (.ref 0 0 (dfixS now l).length (dfixS now l).length) := by
  refine specFE (C := T_specFix) (wr := false) (D := fun _ => []) (U := fun _ => none) (E := []) (E' := [.cells 2 false (.agg [.str [], .str []]) ((dfixS now l).map enc_fld)]) (res := [.ref 0 0 (dfixS now l).length (dfixS now l).length]) [144] Try.Ty.mixed T_specFix_ok Try.func26 (args := [enc_flds l, .int .i64 now]) (nE := 0) (nA := 2) (by decide +kernel) rfl rfl ?_
  simp only [Try.f26, bodyOf, rlOf]
  rw [W_V]
  simp (config := {maxSteps := 2000000}) only [T_specFix, Go.Proofs.Try.Dfx.tb_specClone, Go.Proofs.Try.Dfx.tb_specDated, Go.Proofs.Try.Hdt.tb_specFixH, go_sem, reduceIte, Nat.reduceEqDiff, Nat.reduceAdd, Nat.reduceMul, Nat.reduceDiv, Nat.reduceMod, Nat.reduceSub, Nat.reduceBEq, Nat.reduceLT, Nat.reduceLeDiff, reduceCtorEq, Int.reduceNeg, Int.reduceEq, String.reduceEq, Int.reduceLT, Int.reduceLE, Int.reduceToNat, Int.reduceAdd, Int.reduceMul, Int.reduceSub]
  (try simp (config := {maxSteps := 2000000}) only [gimp, impB, isT, go_sem, reduceIte, Nat.reduceEqDiff, Nat.reduceAdd, Nat.reduceMul, Nat.reduceDiv, Nat.reduceMod, Nat.reduceSub, Nat.reduceBEq, Nat.reduceLT, Nat.reduceLeDiff, reduceCtorEq, Int.reduceNeg, Int.reduceEq, String.reduceEq, Int.reduceLT, Int.reduceLE, Int.reduceToNat, Int.reduceAdd, Int.reduceMul, Int.reduceSub])
  refine ⟨hl, ?_⟩
  refine VL_inv (X := Nat) (fun k => ⟨[(1, .int .i64 now), (5, .ref 144 0 l.length l.length), (10, .int .i64 l.length), (11, .int .i64 k)], [(144, .cells 2 false (.agg [.str [], .str []]) ((dfixS now (l.take k) ++ l.drop k).map enc_fld))]⟩) (fun k => k ≤ l.length) (fun k => l.length - k) 0 ?_ ?_ ?_
  · simp only [List.take_zero, List.drop_zero, dfixS, List.map_nil, List.nil_append, T_specFix, Go.Proofs.Try.Dfx.tb_specClone, Go.Proofs.Try.Dfx.tb_specDated, Go.Proofs.Try.Hdt.tb_specFixH, go_sem, reduceIte, Nat.reduceEqDiff, Nat.reduceAdd, Nat.reduceMul, Nat.reduceDiv, Nat.reduceMod, Nat.reduceSub, Nat.reduceBEq, Nat.reduceLT, Nat.reduceLeDiff, reduceCtorEq, Int.reduceNeg, Int.reduceEq, String.reduceEq, Int.reduceLT, Int.reduceLE, Int.reduceToNat, Int.reduceAdd, Int.reduceMul, Int.reduceSub]
    try rfl
  · exact Nat.zero_le _
  rintro k hk
  simp (config := {maxSteps := 2000000}) only [T_specFix, Go.Proofs.Try.Dfx.tb_specClone, Go.Proofs.Try.Dfx.tb_specDated, Go.Proofs.Try.Hdt.tb_specFixH, go_sem, reduceIte, Nat.reduceEqDiff, Nat.reduceAdd, Nat.reduceMul, Nat.reduceDiv, Nat.reduceMod, Nat.reduceSub, Nat.reduceBEq, Nat.reduceLT, Nat.reduceLeDiff, reduceCtorEq, Int.reduceNeg, Int.reduceEq, String.reduceEq, Int.reduceLT, Int.reduceLE, Int.reduceToNat, Int.reduceAdd, Int.reduceMul, Int.reduceSub]
  (try simp (config := {maxSteps := 2000000}) only [gimp, impB, isT, go_sem, reduceIte, Nat.reduceEqDiff, Nat.reduceAdd, Nat.reduceMul, Nat.reduceDiv, Nat.reduceMod, Nat.reduceSub, Nat.reduceBEq, Nat.reduceLT, Nat.reduceLeDiff, reduceCtorEq, Int.reduceNeg, Int.reduceEq, String.reduceEq, Int.reduceLT, Int.reduceLE, Int.reduceToNat, Int.reduceAdd, Int.reduceMul, Int.reduceSub])
  rw [dfix_len, Nat.zero_add]
  simp only [inR] at hn
  refine ⟨fun hlt => ?_, fun hge => ?_⟩
  · have hlt' : k < l.length := by omega
    rw [dfix_at now hlt']
    have hset := dfix_step now hlt'
    refine ⟨by omega, by omega, fun hd => ⟨by omega, by omega, ⟨hf _ (List.mem_of_getElem? (getD_of_lt (s := l) (d := ([], [])) hlt')), hn⟩, by omega, by omega, by omega, k + 1, ⟨by omega, ?_⟩, by omega, by omega⟩, fun hd => ⟨by omega, k + 1, ⟨by omega, ?_⟩, by omega, by omega⟩⟩
    · rw [← hset, List.map_set, dfixF, if_pos hd]; rfl
    · rw [← hset, dfixF, if_neg (by rw [hd]; simp)]
      have : (dfixS now (l.take k) ++ l.drop k).set k (l.getD k ([], [])) = dfixS now (l.take k) ++ l.drop k := by
        rw [← dfix_at now hlt', List.getD_eq_getElem?_getD, List.getElem?_eq_getElem (by rw [dfix_len]; exact hlt')]
        simp
      rw [this]
  · have : k = l.length := by omega
    subst this
    rw [List.take_length, List.drop_length, List.append_nil]
    exact ⟨by simp [dfixS], rfl⟩
def tb_specFix : List Blk → List AV → Option (List Blk × AV × Prop)
  | [], [a0, .int .i64 now] => some ([.cells 2 false (.agg [.str [], .str []]) ((dfixS now (dec_flds a0)).map enc_fld)], .ref 0 0 (dfixS now (dec_flds a0)).length (dfixS now (dec_flds a0)).length, ((dec_flds a0).length ≤ 1000000) ∧ (∀ f ∈ (dec_flds a0), f.2.length ≤ 1000000) ∧ (inR .i64 now) ∧ argOK a0 (enc_flds (dec_flds a0)))
  | _, _ => none
theorem tb_specFix_ok : ∀ E args E' res p, tb_specFix E args = some (E', res, p) → p → SpecE Try.prog 26 E args E' res := by
  intro E args E' res p h hp
  unfold tb_specFix at h
  split at h
  · simp only [Option.some.injEq, Prod.mk.injEq] at h
    obtain ⟨rfl, rfl, rfl⟩ := h
    exact SpecE.args (specFix _ _ hp.1 hp.2.1 hp.2.2.1) (.cons hp.2.2.2 (.cons (argOK.refl _) .nil))
  · cases h
end Go.Proofs.Try.Dfx
