/- cursor: the walks. No condition. -/
import Derived.Test.YtanpmebamgnhbaaCurM
import Derived.Test.YtanpmebamgnhbaaOct
set_option linter.unusedVariables false
set_option linter.unusedSimpArgs false
namespace Go.Proofs.Try.Cur
open Go Go.Abs Go.Proofs Go.Mdl

def T_specNew : Tbl := fun g E args => nilT g E args
theorem T_specNew_ok : TblOK Try.prog T_specNew := nilT_ok
set_option maxRecDepth 100000 in
set_option maxHeartbeats 4000000 in
theorem specNew (s : List UInt8) : SpecE Try.prog 155 [] [.str s] [.cells 2 false (.agg [.str [], .int .i64 0]) [.agg [.str s, .int .i64 0]]] (.ptr 0 0 0 1) := by
  refine specFE (C := T_specNew) (wr := false) (D := fun _ => []) (U := fun _ => none) (E := []) (E' := [.cells 2 false (.agg [.str [], .int .i64 0]) [.agg [.str s, .int .i64 0]]]) (res := [.ptr 0 0 0 1]) [96] Try.Ty.mixed T_specNew_ok Try.func155 (nE := 0) (nA := 1) (by decide +kernel) rfl rfl ?_
  simp only [Try.f155, bodyOf, rlOf]
  rw [W_V]
  simp (config := {maxSteps := 2000000}) only [T_specNew, go_sem, reduceIte, Nat.reduceEqDiff, Nat.reduceAdd, Nat.reduceMul, Nat.reduceSub, Nat.reduceBEq, Nat.reduceLT, Nat.reduceLeDiff, reduceCtorEq, Int.reduceNeg, Int.reduceEq, String.reduceEq, Int.reduceLT, Int.reduceLE, Int.reduceToNat, Int.reduceAdd, Int.reduceMul, Int.reduceSub]
  (try simp (config := {maxSteps := 2000000}) only [gimp, impB, isT, go_sem, reduceIte, Nat.reduceEqDiff, Nat.reduceAdd, Nat.reduceMul, Nat.reduceSub, Nat.reduceBEq, Nat.reduceLT, Nat.reduceLeDiff, reduceCtorEq, Int.reduceNeg, Int.reduceEq, String.reduceEq, Int.reduceLT, Int.reduceLE, Int.reduceToNat, Int.reduceAdd, Int.reduceMul, Int.reduceSub])
def tb_specNew : List Blk → List AV → Option (List Blk × AV × Prop)
  | [], [.str s] => some ([.cells 2 false (.agg [.str [], .int .i64 0]) [.agg [.str s, .int .i64 0]]], .ptr 0 0 0 1, True)
  | _, _ => none
theorem tb_specNew_ok : ∀ E args E' res p, tb_specNew E args = some (E', res, p) → p → SpecE Try.prog 155 E args E' res := by
  intro E args E' res p h hp
  unfold tb_specNew at h
  split at h
  · simp only [Option.some.injEq, Prod.mk.injEq] at h
    obtain ⟨rfl, rfl, rfl⟩ := h
    exact (specNew _)
  · cases h

def T_specLeft : Tbl := fun g E args => nilT g E args
theorem T_specLeft_ok : TblOK Try.prog T_specLeft := nilT_ok
set_option maxRecDepth 100000 in
set_option maxHeartbeats 4000000 in
theorem specLeft (s : List UInt8) (a : Int) (h : 0 ≤ a ∧ a ≤ s.length) : SpecE Try.prog 254 [.cells 2 false (.agg [.str [], .int .i64 0]) [.agg [.str s, .int .i64 a]]] [.ptr 0 0 0 1] [.cells 2 false (.agg [.str [], .int .i64 0]) [.agg [.str s, .int .i64 a]]] (.str (s.drop a.toNat)) := by
  refine specFE (C := T_specLeft) (wr := false) (D := fun _ => []) (U := fun _ => none) (E := [.cells 2 false (.agg [.str [], .int .i64 0]) [.agg [.str s, .int .i64 a]]]) (E' := [.cells 2 false (.agg [.str [], .int .i64 0]) [.agg [.str s, .int .i64 a]]]) (res := [.str (s.drop a.toNat)]) [] Try.Ty.mixed T_specLeft_ok Try.func254 (nE := 1) (nA := 1) (by decide +kernel) rfl rfl ?_
  simp only [Try.f254, bodyOf, rlOf]
  rw [W_V]
  simp (config := {maxSteps := 2000000}) only [T_specLeft, go_sem, reduceIte, Nat.reduceEqDiff, Nat.reduceAdd, Nat.reduceMul, Nat.reduceSub, Nat.reduceBEq, Nat.reduceLT, Nat.reduceLeDiff, reduceCtorEq, Int.reduceNeg, Int.reduceEq, String.reduceEq, Int.reduceLT, Int.reduceLE, Int.reduceToNat, Int.reduceAdd, Int.reduceMul, Int.reduceSub]
  (try simp (config := {maxSteps := 2000000}) only [gimp, impB, isT, go_sem, reduceIte, Nat.reduceEqDiff, Nat.reduceAdd, Nat.reduceMul, Nat.reduceSub, Nat.reduceBEq, Nat.reduceLT, Nat.reduceLeDiff, reduceCtorEq, Int.reduceNeg, Int.reduceEq, String.reduceEq, Int.reduceLT, Int.reduceLE, Int.reduceToNat, Int.reduceAdd, Int.reduceMul, Int.reduceSub])
  exact h
def tb_specLeft : List Blk → List AV → Option (List Blk × AV × Prop)
  | [.cells 2 false d [.agg [.str s, .int .i64 a]]], [.ptr 0 0 0 1] => some ([.cells 2 false (.agg [.str [], .int .i64 0]) [.agg [.str s, .int .i64 a]]], .str (s.drop a.toNat), (d = .agg [.str [], .int .i64 0]) ∧ (0 ≤ a ∧ a ≤ s.length))
  | _, _ => none
theorem tb_specLeft_ok : ∀ E args E' res p, tb_specLeft E args = some (E', res, p) → p → SpecE Try.prog 254 E args E' res := by
  intro E args E' res p h hp
  unfold tb_specLeft at h
  split at h
  · simp only [Option.some.injEq, Prod.mk.injEq] at h
    obtain ⟨rfl, rfl, rfl⟩ := h
    obtain ⟨rfl, hp⟩ := hp
    exact (specLeft _ _ hp)
  · cases h

def T_specLeftN : Tbl := fun g E args => nilT g E args
theorem T_specLeftN_ok : TblOK Try.prog T_specLeftN := nilT_ok
set_option maxRecDepth 100000 in
set_option maxHeartbeats 4000000 in
theorem specLeftN : SpecE Try.prog 254 [] [.nilp] [] (.str []) := by
  refine specF0 (C := T_specLeftN) (wr := false) (D := fun _ => []) (U := fun _ => none) (res := [.str []]) Try.Ty.mixed T_specLeftN_ok Try.func254 (nA := 1) (by decide +kernel) rfl (fun _ => rfl) ?_
  simp only [Try.f254, bodyOf, rlOf]
  rw [W_V]
  simp (config := {maxSteps := 2000000}) only [T_specLeftN, go_sem, reduceIte, Nat.reduceEqDiff, Nat.reduceAdd, Nat.reduceMul, Nat.reduceSub, Nat.reduceBEq, Nat.reduceLT, Nat.reduceLeDiff, reduceCtorEq, Int.reduceNeg, Int.reduceEq, String.reduceEq, Int.reduceLT, Int.reduceLE, Int.reduceToNat, Int.reduceAdd, Int.reduceMul, Int.reduceSub]
  (try simp (config := {maxSteps := 2000000}) only [gimp, impB, isT, go_sem, reduceIte, Nat.reduceEqDiff, Nat.reduceAdd, Nat.reduceMul, Nat.reduceSub, Nat.reduceBEq, Nat.reduceLT, Nat.reduceLeDiff, reduceCtorEq, Int.reduceNeg, Int.reduceEq, String.reduceEq, Int.reduceLT, Int.reduceLE, Int.reduceToNat, Int.reduceAdd, Int.reduceMul, Int.reduceSub])
def tb_specLeftN : List Blk → List AV → Option (List Blk × AV × Prop)
  | [], [.nilp] => some ([], .str [], True)
  | _, _ => none
theorem tb_specLeftN_ok : ∀ E args E' res p, tb_specLeftN E args = some (E', res, p) → p → SpecE Try.prog 254 E args E' res := by
  intro E args E' res p h hp
  unfold tb_specLeftN at h
  split at h
  · simp only [Option.some.injEq, Prod.mk.injEq] at h
    obtain ⟨rfl, rfl, rfl⟩ := h
    exact specLeftN
  · cases h

def T_specTake : Tbl := fun g E args => (addT nilT 254 Go.Proofs.Try.Cur.tb_specLeft) g E args
theorem T_specTake_ok : TblOK Try.prog T_specTake := (addT_ok nilT_ok (by decide +kernel) Go.Proofs.Try.Cur.tb_specLeft_ok)
set_option maxRecDepth 100000 in
set_option maxHeartbeats 4000000 in
theorem specTake (s : List UInt8) (a n : Int) (h : 0 ≤ a ∧ 0 ≤ n ∧ a + n ≤ s.length ∧ s.length ≤ 1000000) : SpecE Try.prog 250 [.cells 2 false (.agg [.str [], .int .i64 0]) [.agg [.str s, .int .i64 a]]] [.ptr 0 0 0 1, .int .i64 n] [.cells 2 false (.agg [.str [], .int .i64 0]) [.agg [.str s, .int .i64 (a + n)]]] (.str ((s.drop a.toNat).take n.toNat)) := by
  refine specFE (C := T_specTake) (wr := false) (D := fun _ => []) (U := fun _ => none) (E := [.cells 2 false (.agg [.str [], .int .i64 0]) [.agg [.str s, .int .i64 a]]]) (E' := [.cells 2 false (.agg [.str [], .int .i64 0]) [.agg [.str s, .int .i64 (a + n)]]]) (res := [.str ((s.drop a.toNat).take n.toNat)]) [] Try.Ty.mixed T_specTake_ok Try.func250 (nE := 1) (nA := 2) (by decide +kernel) rfl rfl ?_
  simp only [Try.f250, bodyOf, rlOf]
  rw [W_V]
  simp (config := {maxSteps := 2000000}) only [T_specTake, Go.Proofs.Try.Cur.tb_specLeft, go_sem, reduceIte, Nat.reduceEqDiff, Nat.reduceAdd, Nat.reduceMul, Nat.reduceSub, Nat.reduceBEq, Nat.reduceLT, Nat.reduceLeDiff, reduceCtorEq, Int.reduceNeg, Int.reduceEq, String.reduceEq, Int.reduceLT, Int.reduceLE, Int.reduceToNat, Int.reduceAdd, Int.reduceMul, Int.reduceSub]
  (try simp (config := {maxSteps := 2000000}) only [gimp, impB, isT, go_sem, reduceIte, Nat.reduceEqDiff, Nat.reduceAdd, Nat.reduceMul, Nat.reduceSub, Nat.reduceBEq, Nat.reduceLT, Nat.reduceLeDiff, reduceCtorEq, Int.reduceNeg, Int.reduceEq, String.reduceEq, Int.reduceLT, Int.reduceLE, Int.reduceToNat, Int.reduceAdd, Int.reduceMul, Int.reduceSub])
  obtain ⟨h1, h2, h3, h4⟩ := h
  refine ⟨by omega, ⟨h2, by simp; omega⟩, fun hp => by omega, fun hn => ?_⟩
  have : n = 0 := by omega
  subst this
  simp
def tb_specTake : List Blk → List AV → Option (List Blk × AV × Prop)
  | [.cells 2 false d [.agg [.str s, .int .i64 a]]], [.ptr 0 0 0 1, .int .i64 n] => some ([.cells 2 false (.agg [.str [], .int .i64 0]) [.agg [.str s, .int .i64 (a + n)]]], .str ((s.drop a.toNat).take n.toNat), (d = .agg [.str [], .int .i64 0]) ∧ (0 ≤ a ∧ 0 ≤ n ∧ a + n ≤ s.length ∧ s.length ≤ 1000000))
  | _, _ => none
theorem tb_specTake_ok : ∀ E args E' res p, tb_specTake E args = some (E', res, p) → p → SpecE Try.prog 250 E args E' res := by
  intro E args E' res p h hp
  unfold tb_specTake at h
  split at h
  · simp only [Option.some.injEq, Prod.mk.injEq] at h
    obtain ⟨rfl, rfl, rfl⟩ := h
    obtain ⟨rfl, hp⟩ := hp
    exact (specTake _ _ _ hp)
  · cases h

def T_specTakeN : Tbl := fun g E args => (addT nilT 254 Go.Proofs.Try.Cur.tb_specLeftN) g E args
theorem T_specTakeN_ok : TblOK Try.prog T_specTakeN := (addT_ok nilT_ok (by decide +kernel) Go.Proofs.Try.Cur.tb_specLeftN_ok)
set_option maxRecDepth 100000 in
set_option maxHeartbeats 4000000 in
theorem specTakeN : SpecE Try.prog 250 [] [.nilp, .int .i64 0] [] (.str []) := by
  refine specF0 (C := T_specTakeN) (wr := false) (D := fun _ => []) (U := fun _ => none) (res := [.str []]) Try.Ty.mixed T_specTakeN_ok Try.func250 (nA := 2) (by decide +kernel) rfl (fun _ => rfl) ?_
  simp only [Try.f250, bodyOf, rlOf]
  rw [W_V]
  simp (config := {maxSteps := 2000000}) only [T_specTakeN, Go.Proofs.Try.Cur.tb_specLeftN, go_sem, reduceIte, Nat.reduceEqDiff, Nat.reduceAdd, Nat.reduceMul, Nat.reduceSub, Nat.reduceBEq, Nat.reduceLT, Nat.reduceLeDiff, reduceCtorEq, Int.reduceNeg, Int.reduceEq, String.reduceEq, Int.reduceLT, Int.reduceLE, Int.reduceToNat, Int.reduceAdd, Int.reduceMul, Int.reduceSub]
  (try simp (config := {maxSteps := 2000000}) only [gimp, impB, isT, go_sem, reduceIte, Nat.reduceEqDiff, Nat.reduceAdd, Nat.reduceMul, Nat.reduceSub, Nat.reduceBEq, Nat.reduceLT, Nat.reduceLeDiff, reduceCtorEq, Int.reduceNeg, Int.reduceEq, String.reduceEq, Int.reduceLT, Int.reduceLE, Int.reduceToNat, Int.reduceAdd, Int.reduceMul, Int.reduceSub])
def tb_specTakeN : List Blk → List AV → Option (List Blk × AV × Prop)
  | [], [.nilp, .int .i64 0] => some ([], .str [], True)
  | _, _ => none
theorem tb_specTakeN_ok : ∀ E args E' res p, tb_specTakeN E args = some (E', res, p) → p → SpecE Try.prog 250 E args E' res := by
  intro E args E' res p h hp
  unfold tb_specTakeN at h
  split at h
  · simp only [Option.some.injEq, Prod.mk.injEq] at h
    obtain ⟨rfl, rfl, rfl⟩ := h
    exact specTakeN
  · cases h

def T_specDone : Tbl := fun g E args => (addT nilT 254 Go.Proofs.Try.Cur.tb_specLeft) g E args
theorem T_specDone_ok : TblOK Try.prog T_specDone := (addT_ok nilT_ok (by decide +kernel) Go.Proofs.Try.Cur.tb_specLeft_ok)
set_option maxRecDepth 100000 in
set_option maxHeartbeats 4000000 in
theorem specDone (s : List UInt8) (a : Int) (h : 0 ≤ a ∧ a ≤ s.length) : SpecE Try.prog 161 [.cells 2 false (.agg [.str [], .int .i64 0]) [.agg [.str s, .int .i64 a]]] [.ptr 0 0 0 1] [.cells 2 false (.agg [.str [], .int .i64 0]) [.agg [.str s, .int .i64 a]]] (.bool (decide (s.drop a.toNat = []))) := by
  refine specFE (C := T_specDone) (wr := false) (D := fun _ => []) (U := fun _ => none) (E := [.cells 2 false (.agg [.str [], .int .i64 0]) [.agg [.str s, .int .i64 a]]]) (E' := [.cells 2 false (.agg [.str [], .int .i64 0]) [.agg [.str s, .int .i64 a]]]) (res := [.bool (decide (s.drop a.toNat = []))]) [] Try.Ty.mixed T_specDone_ok Try.func161 (nE := 1) (nA := 1) (by decide +kernel) rfl rfl ?_
  simp only [Try.f161, bodyOf, rlOf]
  rw [W_V]
  simp (config := {maxSteps := 2000000}) only [T_specDone, Go.Proofs.Try.Cur.tb_specLeft, go_sem, reduceIte, Nat.reduceEqDiff, Nat.reduceAdd, Nat.reduceMul, Nat.reduceSub, Nat.reduceBEq, Nat.reduceLT, Nat.reduceLeDiff, reduceCtorEq, Int.reduceNeg, Int.reduceEq, String.reduceEq, Int.reduceLT, Int.reduceLE, Int.reduceToNat, Int.reduceAdd, Int.reduceMul, Int.reduceSub]
  (try simp (config := {maxSteps := 2000000}) only [gimp, impB, isT, go_sem, reduceIte, Nat.reduceEqDiff, Nat.reduceAdd, Nat.reduceMul, Nat.reduceSub, Nat.reduceBEq, Nat.reduceLT, Nat.reduceLeDiff, reduceCtorEq, Int.reduceNeg, Int.reduceEq, String.reduceEq, Int.reduceLT, Int.reduceLE, Int.reduceToNat, Int.reduceAdd, Int.reduceMul, Int.reduceSub])
  exact h
def tb_specDone : List Blk → List AV → Option (List Blk × AV × Prop)
  | [.cells 2 false d [.agg [.str s, .int .i64 a]]], [.ptr 0 0 0 1] => some ([.cells 2 false (.agg [.str [], .int .i64 0]) [.agg [.str s, .int .i64 a]]], .bool (decide (s.drop a.toNat = [])), (d = .agg [.str [], .int .i64 0]) ∧ (0 ≤ a ∧ a ≤ s.length))
  | _, _ => none
theorem tb_specDone_ok : ∀ E args E' res p, tb_specDone E args = some (E', res, p) → p → SpecE Try.prog 161 E args E' res := by
  intro E args E' res p h hp
  unfold tb_specDone at h
  split at h
  · simp only [Option.some.injEq, Prod.mk.injEq] at h
    obtain ⟨rfl, rfl, rfl⟩ := h
    obtain ⟨rfl, hp⟩ := hp
    exact (specDone _ _ hp)
  · cases h

def T_specDoneN : Tbl := fun g E args => (addT nilT 254 Go.Proofs.Try.Cur.tb_specLeftN) g E args
theorem T_specDoneN_ok : TblOK Try.prog T_specDoneN := (addT_ok nilT_ok (by decide +kernel) Go.Proofs.Try.Cur.tb_specLeftN_ok)
set_option maxRecDepth 100000 in
set_option maxHeartbeats 4000000 in
theorem specDoneN : SpecE Try.prog 161 [] [.nilp] [] (.bool true) := by
  refine specF0 (C := T_specDoneN) (wr := false) (D := fun _ => []) (U := fun _ => none) (res := [.bool true]) Try.Ty.mixed T_specDoneN_ok Try.func161 (nA := 1) (by decide +kernel) rfl (fun _ => rfl) ?_
  simp only [Try.f161, bodyOf, rlOf]
  rw [W_V]
  simp (config := {maxSteps := 2000000}) only [T_specDoneN, Go.Proofs.Try.Cur.tb_specLeftN, go_sem, reduceIte, Nat.reduceEqDiff, Nat.reduceAdd, Nat.reduceMul, Nat.reduceSub, Nat.reduceBEq, Nat.reduceLT, Nat.reduceLeDiff, reduceCtorEq, Int.reduceNeg, Int.reduceEq, String.reduceEq, Int.reduceLT, Int.reduceLE, Int.reduceToNat, Int.reduceAdd, Int.reduceMul, Int.reduceSub]
  (try simp (config := {maxSteps := 2000000}) only [gimp, impB, isT, go_sem, reduceIte, Nat.reduceEqDiff, Nat.reduceAdd, Nat.reduceMul, Nat.reduceSub, Nat.reduceBEq, Nat.reduceLT, Nat.reduceLeDiff, reduceCtorEq, Int.reduceNeg, Int.reduceEq, String.reduceEq, Int.reduceLT, Int.reduceLE, Int.reduceToNat, Int.reduceAdd, Int.reduceMul, Int.reduceSub])
def tb_specDoneN : List Blk → List AV → Option (List Blk × AV × Prop)
  | [], [.nilp] => some ([], .bool true, True)
  | _, _ => none
theorem tb_specDoneN_ok : ∀ E args E' res p, tb_specDoneN E args = some (E', res, p) → p → SpecE Try.prog 161 E args E' res := by
  intro E args E' res p h hp
  unfold tb_specDoneN at h
  split at h
  · simp only [Option.some.injEq, Prod.mk.injEq] at h
    obtain ⟨rfl, rfl, rfl⟩ := h
    exact specDoneN
  · cases h

theorem head_iff {t : List UInt8} {b : UInt8} : t.head? = some b ↔ t ≠ [] ∧ t.getD 0 0 = b := by
  cases t <;> simp
def T_specByte : Tbl := fun g E args => (addT (addT nilT 254 Go.Proofs.Try.Cur.tb_specLeft) 250 Go.Proofs.Try.Cur.tb_specTake) g E args
theorem T_specByte_ok : TblOK Try.prog T_specByte := (addT_ok (addT_ok nilT_ok (by decide +kernel) Go.Proofs.Try.Cur.tb_specLeft_ok) (by decide +kernel) Go.Proofs.Try.Cur.tb_specTake_ok)
set_option maxRecDepth 100000 in
set_option maxHeartbeats 4000000 in
theorem specByte (s : List UInt8) (a : Int) (b : UInt8) (h : 0 ≤ a ∧ a ≤ s.length ∧ s.length ≤ 1000000) : SpecE Try.prog 159 [.cells 2 false (.agg [.str [], .int .i64 0]) [.agg [.str s, .int .i64 a]]] [.ptr 0 0 0 1, enc_u8 b] [.cells 2 false (.agg [.str [], .int .i64 0]) [.agg [.str s, .int .i64 (if (s.drop a.toNat).head? = some b then a + 1 else a)]]] (.bool (decide ((s.drop a.toNat).head? = some b))) := by
  refine specFE (C := T_specByte) (wr := false) (D := fun _ => []) (U := fun _ => none) (E := [.cells 2 false (.agg [.str [], .int .i64 0]) [.agg [.str s, .int .i64 a]]]) (E' := [.cells 2 false (.agg [.str [], .int .i64 0]) [.agg [.str s, .int .i64 (if (s.drop a.toNat).head? = some b then a + 1 else a)]]]) (res := [.bool (decide ((s.drop a.toNat).head? = some b))]) [] Try.Ty.mixed T_specByte_ok Try.func159 (nE := 1) (nA := 2) (by decide +kernel) rfl rfl ?_
  simp only [Try.f159, bodyOf, rlOf]
  rw [W_V]
  simp (config := {maxSteps := 2000000}) only [T_specByte, Go.Proofs.Try.Cur.tb_specLeft, Go.Proofs.Try.Cur.tb_specTake, go_sem, reduceIte, Nat.reduceEqDiff, Nat.reduceAdd, Nat.reduceMul, Nat.reduceSub, Nat.reduceBEq, Nat.reduceLT, Nat.reduceLeDiff, reduceCtorEq, Int.reduceNeg, Int.reduceEq, String.reduceEq, Int.reduceLT, Int.reduceLE, Int.reduceToNat, Int.reduceAdd, Int.reduceMul, Int.reduceSub]
  (try simp (config := {maxSteps := 2000000}) only [gimp, impB, isT, go_sem, reduceIte, Nat.reduceEqDiff, Nat.reduceAdd, Nat.reduceMul, Nat.reduceSub, Nat.reduceBEq, Nat.reduceLT, Nat.reduceLeDiff, reduceCtorEq, Int.reduceNeg, Int.reduceEq, String.reduceEq, Int.reduceLT, Int.reduceLE, Int.reduceToNat, Int.reduceAdd, Int.reduceMul, Int.reduceSub])
  simp only [head_iff]
  have hl : (s.drop a.toNat).length = s.length - a.toNat := by simp
  have hpos : s.drop a.toNat ≠ [] → 0 < (s.drop a.toNat).length := List.length_pos_iff.2
  refine ⟨by omega, fun hn => by have := hpos hn; omega, fun hn => ?_, fun hn he => ?_⟩
  · have hno : ¬ (s.drop a.toNat ≠ [] ∧ (s.drop a.toNat).getD 0 0 = b) := by
      rintro ⟨h1, h2⟩
      rcases hn with h | h
      · exact h1 h
      · exact h h2
    simp only [if_neg hno, decide_eq_false hno, and_self]
  · have hyes : s.drop a.toNat ≠ [] ∧ (s.drop a.toNat).getD 0 0 = b := ⟨hn, by simpa using he⟩
    have := hpos hn
    simp only [if_pos hyes, decide_eq_true hyes, and_self, and_true]
    omega
def tb_specByte : List Blk → List AV → Option (List Blk × AV × Prop)
  | [.cells 2 false d [.agg [.str s, .int .i64 a]]], [.ptr 0 0 0 1, a1] => some ([.cells 2 false (.agg [.str [], .int .i64 0]) [.agg [.str s, .int .i64 (if (s.drop a.toNat).head? = some (dec_u8 a1) then a + 1 else a)]]], .bool (decide ((s.drop a.toNat).head? = some (dec_u8 a1))), (d = .agg [.str [], .int .i64 0]) ∧ (0 ≤ a ∧ a ≤ s.length ∧ s.length ≤ 1000000) ∧ argOK a1 (enc_u8 (dec_u8 a1)))
  | _, _ => none
theorem tb_specByte_ok : ∀ E args E' res p, tb_specByte E args = some (E', res, p) → p → SpecE Try.prog 159 E args E' res := by
  intro E args E' res p h hp
  unfold tb_specByte at h
  split at h
  · simp only [Option.some.injEq, Prod.mk.injEq] at h
    obtain ⟨rfl, rfl, rfl⟩ := h
    obtain ⟨rfl, hp⟩ := hp
    exact SpecE.args (specByte _ _ _ hp.1) (.cons (argOK.refl _) (.cons hp.2 .nil))
  · cases h

def T_specByteN : Tbl := fun g E args => (addT nilT 254 Go.Proofs.Try.Cur.tb_specLeftN) g E args
theorem T_specByteN_ok : TblOK Try.prog T_specByteN := (addT_ok nilT_ok (by decide +kernel) Go.Proofs.Try.Cur.tb_specLeftN_ok)
set_option maxRecDepth 100000 in
set_option maxHeartbeats 4000000 in
theorem specByteN (b : UInt8) : SpecE Try.prog 159 [] [.nilp, enc_u8 b] [] (.bool false) := by
  refine specF0 (C := T_specByteN) (wr := false) (D := fun _ => []) (U := fun _ => none) (res := [.bool false]) Try.Ty.mixed T_specByteN_ok Try.func159 (nA := 2) (by decide +kernel) rfl (fun _ => rfl) ?_
  simp only [Try.f159, bodyOf, rlOf]
  rw [W_V]
  simp (config := {maxSteps := 2000000}) only [T_specByteN, Go.Proofs.Try.Cur.tb_specLeftN, go_sem, reduceIte, Nat.reduceEqDiff, Nat.reduceAdd, Nat.reduceMul, Nat.reduceSub, Nat.reduceBEq, Nat.reduceLT, Nat.reduceLeDiff, reduceCtorEq, Int.reduceNeg, Int.reduceEq, String.reduceEq, Int.reduceLT, Int.reduceLE, Int.reduceToNat, Int.reduceAdd, Int.reduceMul, Int.reduceSub]
  (try simp (config := {maxSteps := 2000000}) only [gimp, impB, isT, go_sem, reduceIte, Nat.reduceEqDiff, Nat.reduceAdd, Nat.reduceMul, Nat.reduceSub, Nat.reduceBEq, Nat.reduceLT, Nat.reduceLeDiff, reduceCtorEq, Int.reduceNeg, Int.reduceEq, String.reduceEq, Int.reduceLT, Int.reduceLE, Int.reduceToNat, Int.reduceAdd, Int.reduceMul, Int.reduceSub])
def tb_specByteN : List Blk → List AV → Option (List Blk × AV × Prop)
  | [], [.nilp, a1] => some ([], .bool false, argOK a1 (enc_u8 (dec_u8 a1)))
  | _, _ => none
theorem tb_specByteN_ok : ∀ E args E' res p, tb_specByteN E args = some (E', res, p) → p → SpecE Try.prog 159 E args E' res := by
  intro E args E' res p h hp
  unfold tb_specByteN at h
  split at h
  · simp only [Option.some.injEq, Prod.mk.injEq] at h
    obtain ⟨rfl, rfl, rfl⟩ := h
    exact SpecE.args (specByteN _) (.cons (argOK.refl _) (.cons hp .nil))
  · cases h

def T_specSkipP : Tbl := fun g E args => nilT g E args
theorem T_specSkipP_ok : TblOK Try.prog T_specSkipP := nilT_ok
set_option maxRecDepth 100000 in
set_option maxHeartbeats 4000000 in
theorem specSkipP (c : UInt8) : SpecE Try.prog 253 [] [enc_u8 c] [] (.bool (blankB c)) := by
  refine specF0 (C := T_specSkipP) (wr := false) (D := fun _ => []) (U := fun _ => none) (res := [.bool (blankB c)]) Try.Ty.mixed T_specSkipP_ok Try.func253 (nA := 1) (by decide +kernel) rfl (fun _ => rfl) ?_
  simp only [Try.f253, bodyOf, rlOf]
  rw [W_V]
  simp (config := {maxSteps := 2000000}) only [T_specSkipP, go_sem, reduceIte, Nat.reduceEqDiff, Nat.reduceAdd, Nat.reduceMul, Nat.reduceSub, Nat.reduceBEq, Nat.reduceLT, Nat.reduceLeDiff, reduceCtorEq, Int.reduceNeg, Int.reduceEq, String.reduceEq, Int.reduceLT, Int.reduceLE, Int.reduceToNat, Int.reduceAdd, Int.reduceMul, Int.reduceSub]
  (try simp (config := {maxSteps := 2000000}) only [gimp, impB, isT, go_sem, reduceIte, Nat.reduceEqDiff, Nat.reduceAdd, Nat.reduceMul, Nat.reduceSub, Nat.reduceBEq, Nat.reduceLT, Nat.reduceLeDiff, reduceCtorEq, Int.reduceNeg, Int.reduceEq, String.reduceEq, Int.reduceLT, Int.reduceLE, Int.reduceToNat, Int.reduceAdd, Int.reduceMul, Int.reduceSub])
  rfl
def tb_specSkipP : List Blk → List AV → Option (List Blk × AV × Prop)
  | [], [a0] => some ([], .bool (blankB (dec_u8 a0)), argOK a0 (enc_u8 (dec_u8 a0)))
  | _, _ => none
theorem tb_specSkipP_ok : ∀ E args E' res p, tb_specSkipP E args = some (E', res, p) → p → SpecE Try.prog 253 E args E' res := by
  intro E args E' res p h hp
  unfold tb_specSkipP at h
  split at h
  · simp only [Option.some.injEq, Prod.mk.injEq] at h
    obtain ⟨rfl, rfl, rfl⟩ := h
    exact SpecE.args (specSkipP _) (.cons hp .nil)
  · cases h


theorem spec_span {f : FuncId} (hy : ¬ f = 1000000) {p : UInt8 → Bool} (hs : ∀ c : UInt8, SpecE Try.prog f [] [enc_u8 c] [] (.bool (p c))) (s : List UInt8) (a : Int) (h : 0 ≤ a ∧ a ≤ s.length ∧ s.length ≤ 1000000) :
    SpecE Try.prog 251 [.cells 2 false (.agg [.str [], .int .i64 0]) [.agg [.str s, .int .i64 a]]] [.ptr 0 0 0 1, .clo f 0 []] [.cells 2 false (.agg [.str [], .int .i64 0]) [.agg [.str s, .int .i64 a]]] (.int .i64 (spanL p (s.drop a.toNat))) := by
  have htb : TblOK Try.prog (addT (addT nilT f (tbU8 p)) 254 tb_specLeft) := addT_ok (addT_ok nilT_ok (by simp) (tbU8_ok hs)) (by decide +kernel) tb_specLeft_ok
  refine specFE (C := addT (addT nilT f (tbU8 p)) 254 tb_specLeft) (wr := false) (D := fun _ => []) (U := fun _ => none) (E := [.cells 2 false (.agg [.str [], .int .i64 0]) [.agg [.str s, .int .i64 a]]])
    (E' := [.cells 2 false (.agg [.str [], .int .i64 0]) [.agg [.str s, .int .i64 a]]]) (res := [.int .i64 (spanL p (s.drop a.toNat))]) [] Try.Ty.mixed htb Try.func251 (nE := 1) (nA := 2) (by decide +kernel) rfl rfl ?_
  simp only [Try.f251, bodyOf, rlOf]
  rw [W_V]
  simp only [tb_specLeft, hy, go_sem, go_sem, reduceIte, Nat.reduceEqDiff, Nat.reduceAdd, Nat.reduceMul, Nat.reduceSub, Nat.reduceBEq, Nat.reduceLT, Nat.reduceLeDiff, reduceCtorEq, Int.reduceNeg, Int.reduceEq, String.reduceEq, Int.reduceLT, Int.reduceLE, Int.reduceToNat, Int.reduceAdd, Int.reduceMul, Int.reduceSub, Try.underlying9, Try.underlying137]
  refine ⟨by omega, ?_⟩
  generalize ht : s.drop a.toNat = t
  have hl : t.length ≤ 1000000 := by rw [← ht]; simp; omega
  refine VL_inv (X := Nat) (fun x => ⟨[(1, .clo f 0 []), (5, .str t), (6, .int .i64 x)], [(0, .cells 2 false (.agg [.str [], .int .i64 0]) [.agg [.str s, .int .i64 a]])]⟩) (fun x => x ≤ t.length ∧ (t.take x).all p = true) (fun x => t.length - x) 0 ?_ ?_ ?_
  · simp only [go_sem, go_sem, reduceIte, Nat.reduceEqDiff, Nat.reduceAdd, Nat.reduceMul, Nat.reduceSub, Nat.reduceBEq, Nat.reduceLT, Nat.reduceLeDiff, reduceCtorEq, Int.reduceNeg, Int.reduceEq, String.reduceEq, Int.reduceLT, Int.reduceLE, Int.reduceToNat, Int.reduceAdd, Int.reduceMul, Int.reduceSub]
  · exact ⟨Nat.zero_le _, by simp⟩
  rintro x ⟨hx, hn⟩
  simp only [tb_specLeft, hy, go_sem, go_sem, reduceIte, Nat.reduceEqDiff, Nat.reduceAdd, Nat.reduceMul, Nat.reduceSub, Nat.reduceBEq, Nat.reduceLT, Nat.reduceLeDiff, reduceCtorEq, Int.reduceNeg, Int.reduceEq, String.reduceEq, Int.reduceLT, Int.reduceLE, Int.reduceToNat, Int.reduceAdd, Int.reduceMul, Int.reduceSub, Try.underlying9, Try.underlying137]
  refine ⟨⟨fun h => by omega, fun h => by simpa using h⟩, fun hlt hp => ⟨by omega, x + 1, by omega, ⟨by omega, (all_step (by omega) hn).1 hp⟩, by omega⟩, fun hf => ?_⟩
  rw [← span_exit hx hn (fun hlt => ?_)]
  simpa [hlt] using hf


def T_specSpanN : Tbl := fun g E args => (addT nilT 254 Go.Proofs.Try.Cur.tb_specLeftN) g E args
theorem T_specSpanN_ok : TblOK Try.prog T_specSpanN := (addT_ok nilT_ok (by decide +kernel) Go.Proofs.Try.Cur.tb_specLeftN_ok)
set_option maxRecDepth 100000 in
set_option maxHeartbeats 4000000 in
theorem specSpanN (f : FuncId) (hy : ¬ f = 1000000) : SpecE Try.prog 251 [] [.nilp, .clo f 0 []] [] (.int .i64 0) := by
  refine specF0 (C := T_specSpanN) (wr := false) (D := fun _ => []) (U := fun _ => none) (res := [.int .i64 0]) Try.Ty.mixed T_specSpanN_ok Try.func251 (nA := 2) (by decide +kernel) rfl (fun _ => rfl) ?_
  simp only [Try.f251, bodyOf, rlOf]
  rw [W_V]
  simp (config := {maxSteps := 2000000}) only [T_specSpanN, Go.Proofs.Try.Cur.tb_specLeftN, go_sem, reduceIte, Nat.reduceEqDiff, Nat.reduceAdd, Nat.reduceMul, Nat.reduceSub, Nat.reduceBEq, Nat.reduceLT, Nat.reduceLeDiff, reduceCtorEq, Int.reduceNeg, Int.reduceEq, String.reduceEq, Int.reduceLT, Int.reduceLE, Int.reduceToNat, Int.reduceAdd, Int.reduceMul, Int.reduceSub, hy]
  (try simp (config := {maxSteps := 2000000}) only [gimp, impB, isT, go_sem, reduceIte, Nat.reduceEqDiff, Nat.reduceAdd, Nat.reduceMul, Nat.reduceSub, Nat.reduceBEq, Nat.reduceLT, Nat.reduceLeDiff, reduceCtorEq, Int.reduceNeg, Int.reduceEq, String.reduceEq, Int.reduceLT, Int.reduceLE, Int.reduceToNat, Int.reduceAdd, Int.reduceMul, Int.reduceSub])
  refine VL_N 1 ?_
  rw [VN_succ]
  simp (config := {maxSteps := 2000000}) only [T_specSpanN, Go.Proofs.Try.Cur.tb_specLeftN, go_sem, reduceIte, Nat.reduceEqDiff, Nat.reduceAdd, Nat.reduceMul, Nat.reduceSub, Nat.reduceBEq, Nat.reduceLT, Nat.reduceLeDiff, reduceCtorEq, Int.reduceNeg, Int.reduceEq, String.reduceEq, Int.reduceLT, Int.reduceLE, Int.reduceToNat, Int.reduceAdd, Int.reduceMul, Int.reduceSub, hy]
  (try simp (config := {maxSteps := 2000000}) only [gimp, impB, isT, go_sem, reduceIte, Nat.reduceEqDiff, Nat.reduceAdd, Nat.reduceMul, Nat.reduceSub, Nat.reduceBEq, Nat.reduceLT, Nat.reduceLeDiff, reduceCtorEq, Int.reduceNeg, Int.reduceEq, String.reduceEq, Int.reduceLT, Int.reduceLE, Int.reduceToNat, Int.reduceAdd, Int.reduceMul, Int.reduceSub])
def tb_specSpanN : List Blk → List AV → Option (List Blk × AV × Prop)
  | [], [.nilp, .clo f 0 []] => some ([], .int .i64 0, (¬ f = 1000000))
  | _, _ => none
theorem tb_specSpanN_ok : ∀ E args E' res p, tb_specSpanN E args = some (E', res, p) → p → SpecE Try.prog 251 E args E' res := by
  intro E args E' res p h hp
  unfold tb_specSpanN at h
  split at h
  · simp only [Option.some.injEq, Prod.mk.injEq] at h
    obtain ⟨rfl, rfl, rfl⟩ := h
    exact (specSpanN _ hp)
  · cases h


def T_specSpanS : Tbl := fun g E args => nilT g E args
theorem T_specSpanS_ok : TblOK Try.prog T_specSpanS := nilT_ok
set_option maxRecDepth 100000 in
set_option maxHeartbeats 4000000 in
theorem specSpanS (s : List UInt8) (a : Int) (h : 0 ≤ a ∧ a ≤ s.length ∧ s.length ≤ 1000000) : SpecE Try.prog 251 [.cells 2 false (.agg [.str [], .int .i64 0]) [.agg [.str s, .int .i64 a]]] [.ptr 0 0 0 1, .clo 253 0 []] [.cells 2 false (.agg [.str [], .int .i64 0]) [.agg [.str s, .int .i64 a]]] (.int .i64 (spanL blankB (s.drop a.toNat))) := by
  exact spec_span (by decide) specSkipP s a h
def tb_specSpanS : List Blk → List AV → Option (List Blk × AV × Prop)
  | [.cells 2 false d [.agg [.str s, .int .i64 a]]], [.ptr 0 0 0 1, .clo 253 0 []] => some ([.cells 2 false (.agg [.str [], .int .i64 0]) [.agg [.str s, .int .i64 a]]], .int .i64 (spanL blankB (s.drop a.toNat)), (d = .agg [.str [], .int .i64 0]) ∧ (0 ≤ a ∧ a ≤ s.length ∧ s.length ≤ 1000000))
  | _, _ => none
theorem tb_specSpanS_ok : ∀ E args E' res p, tb_specSpanS E args = some (E', res, p) → p → SpecE Try.prog 251 E args E' res := by
  intro E args E' res p h hp
  unfold tb_specSpanS at h
  split at h
  · simp only [Option.some.injEq, Prod.mk.injEq] at h
    obtain ⟨rfl, rfl, rfl⟩ := h
    obtain ⟨rfl, hp⟩ := hp
    exact (specSpanS _ _ hp)
  · cases h

def T_specSpanT : Tbl := fun g E args => nilT g E args
theorem T_specSpanT_ok : TblOK Try.prog T_specSpanT := nilT_ok
set_option maxRecDepth 100000 in
set_option maxHeartbeats 4000000 in
theorem specSpanT (s : List UInt8) (a : Int) (h : 0 ≤ a ∧ a ≤ s.length ∧ s.length ≤ 1000000) : SpecE Try.prog 251 [.cells 2 false (.agg [.str [], .int .i64 0]) [.agg [.str s, .int .i64 a]]] [.ptr 0 0 0 1, .clo 252 0 []] [.cells 2 false (.agg [.str [], .int .i64 0]) [.agg [.str s, .int .i64 a]]] (.int .i64 (spanL tcharB (s.drop a.toNat))) := by
  exact spec_span (by decide) Oct.specTcharX s a h
def tb_specSpanT : List Blk → List AV → Option (List Blk × AV × Prop)
  | [.cells 2 false d [.agg [.str s, .int .i64 a]]], [.ptr 0 0 0 1, .clo 252 0 []] => some ([.cells 2 false (.agg [.str [], .int .i64 0]) [.agg [.str s, .int .i64 a]]], .int .i64 (spanL tcharB (s.drop a.toNat)), (d = .agg [.str [], .int .i64 0]) ∧ (0 ≤ a ∧ a ≤ s.length ∧ s.length ≤ 1000000))
  | _, _ => none
theorem tb_specSpanT_ok : ∀ E args E' res p, tb_specSpanT E args = some (E', res, p) → p → SpecE Try.prog 251 E args E' res := by
  intro E args E' res p h hp
  unfold tb_specSpanT at h
  split at h
  · simp only [Option.some.injEq, Prod.mk.injEq] at h
    obtain ⟨rfl, rfl, rfl⟩ := h
    obtain ⟨rfl, hp⟩ := hp
    exact (specSpanT _ _ hp)
  · cases h


def T_specSkip : Tbl := fun g E args => (addT (addT nilT 251 Go.Proofs.Try.Cur.tb_specSpanS) 250 Go.Proofs.Try.Cur.tb_specTake) g E args
theorem T_specSkip_ok : TblOK Try.prog T_specSkip := (addT_ok (addT_ok nilT_ok (by decide +kernel) Go.Proofs.Try.Cur.tb_specSpanS_ok) (by decide +kernel) Go.Proofs.Try.Cur.tb_specTake_ok)
set_option maxRecDepth 100000 in
set_option maxHeartbeats 4000000 in
theorem specSkip (s : List UInt8) (a : Int) (h : 0 ≤ a ∧ a ≤ s.length ∧ s.length ≤ 1000000) : SpecE Try.prog 158 [.cells 2 false (.agg [.str [], .int .i64 0]) [.agg [.str s, .int .i64 a]]] [.ptr 0 0 0 1] [.cells 2 false (.agg [.str [], .int .i64 0]) [.agg [.str s, .int .i64 (a + spanL blankB (s.drop a.toNat))]]] (.int .i64 (spanL blankB (s.drop a.toNat))) := by
  refine specFE (C := T_specSkip) (wr := false) (D := fun _ => []) (U := fun _ => none) (E := [.cells 2 false (.agg [.str [], .int .i64 0]) [.agg [.str s, .int .i64 a]]]) (E' := [.cells 2 false (.agg [.str [], .int .i64 0]) [.agg [.str s, .int .i64 (a + spanL blankB (s.drop a.toNat))]]]) (res := [.int .i64 (spanL blankB (s.drop a.toNat))]) [] Try.Ty.mixed T_specSkip_ok Try.func158 (nE := 1) (nA := 1) (by decide +kernel) rfl rfl ?_
  simp only [Try.f158, bodyOf, rlOf]
  rw [W_V]
  simp (config := {maxSteps := 2000000}) only [T_specSkip, Go.Proofs.Try.Cur.tb_specSpanS, Go.Proofs.Try.Cur.tb_specTake, go_sem, reduceIte, Nat.reduceEqDiff, Nat.reduceAdd, Nat.reduceMul, Nat.reduceSub, Nat.reduceBEq, Nat.reduceLT, Nat.reduceLeDiff, reduceCtorEq, Int.reduceNeg, Int.reduceEq, String.reduceEq, Int.reduceLT, Int.reduceLE, Int.reduceToNat, Int.reduceAdd, Int.reduceMul, Int.reduceSub]
  (try simp (config := {maxSteps := 2000000}) only [gimp, impB, isT, go_sem, reduceIte, Nat.reduceEqDiff, Nat.reduceAdd, Nat.reduceMul, Nat.reduceSub, Nat.reduceBEq, Nat.reduceLT, Nat.reduceLeDiff, reduceCtorEq, Int.reduceNeg, Int.reduceEq, String.reduceEq, Int.reduceLT, Int.reduceLE, Int.reduceToNat, Int.reduceAdd, Int.reduceMul, Int.reduceSub])
  have hl : (s.drop a.toNat).length = s.length - a.toNat := by simp
  have hk := spanL_le blankB (s.drop a.toNat)
  refine ⟨h, by omega, ?_⟩
  rw [List.length_take]; omega
def tb_specSkip : List Blk → List AV → Option (List Blk × AV × Prop)
  | [.cells 2 false d [.agg [.str s, .int .i64 a]]], [.ptr 0 0 0 1] => some ([.cells 2 false (.agg [.str [], .int .i64 0]) [.agg [.str s, .int .i64 (a + spanL blankB (s.drop a.toNat))]]], .int .i64 (spanL blankB (s.drop a.toNat)), (d = .agg [.str [], .int .i64 0]) ∧ (0 ≤ a ∧ a ≤ s.length ∧ s.length ≤ 1000000))
  | _, _ => none
theorem tb_specSkip_ok : ∀ E args E' res p, tb_specSkip E args = some (E', res, p) → p → SpecE Try.prog 158 E args E' res := by
  intro E args E' res p h hp
  unfold tb_specSkip at h
  split at h
  · simp only [Option.some.injEq, Prod.mk.injEq] at h
    obtain ⟨rfl, rfl, rfl⟩ := h
    obtain ⟨rfl, hp⟩ := hp
    exact (specSkip _ _ hp)
  · cases h

def T_specToken : Tbl := fun g E args => (addT (addT nilT 251 Go.Proofs.Try.Cur.tb_specSpanT) 250 Go.Proofs.Try.Cur.tb_specTake) g E args
theorem T_specToken_ok : TblOK Try.prog T_specToken := (addT_ok (addT_ok nilT_ok (by decide +kernel) Go.Proofs.Try.Cur.tb_specSpanT_ok) (by decide +kernel) Go.Proofs.Try.Cur.tb_specTake_ok)
set_option maxRecDepth 100000 in
set_option maxHeartbeats 4000000 in
theorem specToken (s : List UInt8) (a : Int) (h : 0 ≤ a ∧ a ≤ s.length ∧ s.length ≤ 1000000) : SpecE Try.prog 156 [.cells 2 false (.agg [.str [], .int .i64 0]) [.agg [.str s, .int .i64 a]]] [.ptr 0 0 0 1] [.cells 2 false (.agg [.str [], .int .i64 0]) [.agg [.str s, .int .i64 (a + spanL tcharB (s.drop a.toNat))]]] (.str ((s.drop a.toNat).take (spanL tcharB (s.drop a.toNat)))) := by
  refine specFE (C := T_specToken) (wr := false) (D := fun _ => []) (U := fun _ => none) (E := [.cells 2 false (.agg [.str [], .int .i64 0]) [.agg [.str s, .int .i64 a]]]) (E' := [.cells 2 false (.agg [.str [], .int .i64 0]) [.agg [.str s, .int .i64 (a + spanL tcharB (s.drop a.toNat))]]]) (res := [.str ((s.drop a.toNat).take (spanL tcharB (s.drop a.toNat)))]) [] Try.Ty.mixed T_specToken_ok Try.func156 (nE := 1) (nA := 1) (by decide +kernel) rfl rfl ?_
  simp only [Try.f156, bodyOf, rlOf]
  rw [W_V]
  simp (config := {maxSteps := 2000000}) only [T_specToken, Go.Proofs.Try.Cur.tb_specSpanT, Go.Proofs.Try.Cur.tb_specTake, go_sem, reduceIte, Nat.reduceEqDiff, Nat.reduceAdd, Nat.reduceMul, Nat.reduceSub, Nat.reduceBEq, Nat.reduceLT, Nat.reduceLeDiff, reduceCtorEq, Int.reduceNeg, Int.reduceEq, String.reduceEq, Int.reduceLT, Int.reduceLE, Int.reduceToNat, Int.reduceAdd, Int.reduceMul, Int.reduceSub]
  (try simp (config := {maxSteps := 2000000}) only [gimp, impB, isT, go_sem, reduceIte, Nat.reduceEqDiff, Nat.reduceAdd, Nat.reduceMul, Nat.reduceSub, Nat.reduceBEq, Nat.reduceLT, Nat.reduceLeDiff, reduceCtorEq, Int.reduceNeg, Int.reduceEq, String.reduceEq, Int.reduceLT, Int.reduceLE, Int.reduceToNat, Int.reduceAdd, Int.reduceMul, Int.reduceSub])
  have hl : (s.drop a.toNat).length = s.length - a.toNat := by simp
  have hk := spanL_le tcharB (s.drop a.toNat)
  exact ⟨h, by omega⟩
def tb_specToken : List Blk → List AV → Option (List Blk × AV × Prop)
  | [.cells 2 false d [.agg [.str s, .int .i64 a]]], [.ptr 0 0 0 1] => some ([.cells 2 false (.agg [.str [], .int .i64 0]) [.agg [.str s, .int .i64 (a + spanL tcharB (s.drop a.toNat))]]], .str ((s.drop a.toNat).take (spanL tcharB (s.drop a.toNat))), (d = .agg [.str [], .int .i64 0]) ∧ (0 ≤ a ∧ a ≤ s.length ∧ s.length ≤ 1000000))
  | _, _ => none
theorem tb_specToken_ok : ∀ E args E' res p, tb_specToken E args = some (E', res, p) → p → SpecE Try.prog 156 E args E' res := by
  intro E args E' res p h hp
  unfold tb_specToken at h
  split at h
  · simp only [Option.some.injEq, Prod.mk.injEq] at h
    obtain ⟨rfl, rfl, rfl⟩ := h
    obtain ⟨rfl, hp⟩ := hp
    exact (specToken _ _ hp)
  · cases h


def T_specSkipN : Tbl := fun g E args => (addT (addT nilT 251 Go.Proofs.Try.Cur.tb_specSpanN) 250 Go.Proofs.Try.Cur.tb_specTakeN) g E args
theorem T_specSkipN_ok : TblOK Try.prog T_specSkipN := (addT_ok (addT_ok nilT_ok (by decide +kernel) Go.Proofs.Try.Cur.tb_specSpanN_ok) (by decide +kernel) Go.Proofs.Try.Cur.tb_specTakeN_ok)
set_option maxRecDepth 100000 in
set_option maxHeartbeats 4000000 in
theorem specSkipN : SpecE Try.prog 158 [] [.nilp] [] (.int .i64 0) := by
  refine specF0 (C := T_specSkipN) (wr := false) (D := fun _ => []) (U := fun _ => none) (res := [.int .i64 0]) Try.Ty.mixed T_specSkipN_ok Try.func158 (nA := 1) (by decide +kernel) rfl (fun _ => rfl) ?_
  simp only [Try.f158, bodyOf, rlOf]
  rw [W_V]
  simp (config := {maxSteps := 2000000}) only [T_specSkipN, Go.Proofs.Try.Cur.tb_specSpanN, Go.Proofs.Try.Cur.tb_specTakeN, go_sem, reduceIte, Nat.reduceEqDiff, Nat.reduceAdd, Nat.reduceMul, Nat.reduceSub, Nat.reduceBEq, Nat.reduceLT, Nat.reduceLeDiff, reduceCtorEq, Int.reduceNeg, Int.reduceEq, String.reduceEq, Int.reduceLT, Int.reduceLE, Int.reduceToNat, Int.reduceAdd, Int.reduceMul, Int.reduceSub]
  (try simp (config := {maxSteps := 2000000}) only [gimp, impB, isT, go_sem, reduceIte, Nat.reduceEqDiff, Nat.reduceAdd, Nat.reduceMul, Nat.reduceSub, Nat.reduceBEq, Nat.reduceLT, Nat.reduceLeDiff, reduceCtorEq, Int.reduceNeg, Int.reduceEq, String.reduceEq, Int.reduceLT, Int.reduceLE, Int.reduceToNat, Int.reduceAdd, Int.reduceMul, Int.reduceSub])
def tb_specSkipN : List Blk → List AV → Option (List Blk × AV × Prop)
  | [], [.nilp] => some ([], .int .i64 0, True)
  | _, _ => none
theorem tb_specSkipN_ok : ∀ E args E' res p, tb_specSkipN E args = some (E', res, p) → p → SpecE Try.prog 158 E args E' res := by
  intro E args E' res p h hp
  unfold tb_specSkipN at h
  split at h
  · simp only [Option.some.injEq, Prod.mk.injEq] at h
    obtain ⟨rfl, rfl, rfl⟩ := h
    exact specSkipN
  · cases h

def T_specTokenN : Tbl := fun g E args => (addT (addT nilT 251 Go.Proofs.Try.Cur.tb_specSpanN) 250 Go.Proofs.Try.Cur.tb_specTakeN) g E args
theorem T_specTokenN_ok : TblOK Try.prog T_specTokenN := (addT_ok (addT_ok nilT_ok (by decide +kernel) Go.Proofs.Try.Cur.tb_specSpanN_ok) (by decide +kernel) Go.Proofs.Try.Cur.tb_specTakeN_ok)
set_option maxRecDepth 100000 in
set_option maxHeartbeats 4000000 in
theorem specTokenN : SpecE Try.prog 156 [] [.nilp] [] (.str []) := by
  refine specF0 (C := T_specTokenN) (wr := false) (D := fun _ => []) (U := fun _ => none) (res := [.str []]) Try.Ty.mixed T_specTokenN_ok Try.func156 (nA := 1) (by decide +kernel) rfl (fun _ => rfl) ?_
  simp only [Try.f156, bodyOf, rlOf]
  rw [W_V]
  simp (config := {maxSteps := 2000000}) only [T_specTokenN, Go.Proofs.Try.Cur.tb_specSpanN, Go.Proofs.Try.Cur.tb_specTakeN, go_sem, reduceIte, Nat.reduceEqDiff, Nat.reduceAdd, Nat.reduceMul, Nat.reduceSub, Nat.reduceBEq, Nat.reduceLT, Nat.reduceLeDiff, reduceCtorEq, Int.reduceNeg, Int.reduceEq, String.reduceEq, Int.reduceLT, Int.reduceLE, Int.reduceToNat, Int.reduceAdd, Int.reduceMul, Int.reduceSub]
  (try simp (config := {maxSteps := 2000000}) only [gimp, impB, isT, go_sem, reduceIte, Nat.reduceEqDiff, Nat.reduceAdd, Nat.reduceMul, Nat.reduceSub, Nat.reduceBEq, Nat.reduceLT, Nat.reduceLeDiff, reduceCtorEq, Int.reduceNeg, Int.reduceEq, String.reduceEq, Int.reduceLT, Int.reduceLE, Int.reduceToNat, Int.reduceAdd, Int.reduceMul, Int.reduceSub])
def tb_specTokenN : List Blk → List AV → Option (List Blk × AV × Prop)
  | [], [.nilp] => some ([], .str [], True)
  | _, _ => none
theorem tb_specTokenN_ok : ∀ E args E' res p, tb_specTokenN E args = some (E', res, p) → p → SpecE Try.prog 156 E args E' res := by
  intro E args E' res p h hp
  unfold tb_specTokenN at h
  split at h
  · simp only [Option.some.injEq, Prod.mk.injEq] at h
    obtain ⟨rfl, rfl, rfl⟩ := h
    exact specTokenN
  · cases h

end Go.Proofs.Try.Cur
