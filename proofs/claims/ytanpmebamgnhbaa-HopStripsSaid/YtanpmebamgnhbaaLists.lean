/- lists: the walks of the program. No condition beyond those that a machine's numbers bring. -/
import Derived.Test.YtanpmebamgnhbaaListsM
import Derived.Test.YtanpmebamgnhbaaOctC
import Derived.Test.YtanpmebamgnhbaaLibS
import Derived.Test.YtanpmebamgnhbaaSlc
set_option linter.unusedVariables false
set_option linter.unusedSimpArgs false
namespace Go.Proofs.Try.Lists
open Go Go.Abs Go.Proofs Go.Mdl

def T_specClosed : Tbl := fun g E args => nilT g E args
theorem T_specClosed_ok : TblOK Try.prog T_specClosed := nilT_ok
set_option maxRecDepth 100000 in
set_option maxHeartbeats 4000000 in
theorem specClosed (q s : Bool) (d : Int) (hd : 0 ≤ d) : SpecE Try.prog 234 [.cells 3 false (.agg [.bool false, .bool false, .int .i64 0]) [.agg [.bool q, .bool s, .int .i64 d]]] [.ptr 0 0 0 1] [.cells 3 false (.agg [.bool false, .bool false, .int .i64 0]) [.agg [.bool q, .bool s, .int .i64 d]]] (.bool (Scan.mk q s d.toNat).closed) := by
  refine specFE (C := T_specClosed) (wr := false) (D := fun _ => []) (U := fun _ => none) (E := [.cells 3 false (.agg [.bool false, .bool false, .int .i64 0]) [.agg [.bool q, .bool s, .int .i64 d]]]) (E' := [.cells 3 false (.agg [.bool false, .bool false, .int .i64 0]) [.agg [.bool q, .bool s, .int .i64 d]]]) (res := [.bool (Scan.mk q s d.toNat).closed]) [] Try.Ty.mixed T_specClosed_ok Try.func234 (nE := 1) (nA := 1) (by decide +kernel) rfl rfl ?_
  simp only [Try.f234, bodyOf, rlOf]
  rw [W_V]
  simp (config := {maxSteps := 2000000}) only [T_specClosed, go_sem, reduceIte, Nat.reduceEqDiff, Nat.reduceAdd, Nat.reduceMul, Nat.reduceSub, Nat.reduceBEq, Nat.reduceLT, Nat.reduceLeDiff, reduceCtorEq, Int.reduceNeg, Int.reduceEq, String.reduceEq, Int.reduceLT, Int.reduceLE, Int.reduceToNat, Int.reduceAdd, Int.reduceMul, Int.reduceSub]
  (try simp (config := {maxSteps := 2000000}) only [gimp, impB, isT, go_sem, reduceIte, Nat.reduceEqDiff, Nat.reduceAdd, Nat.reduceMul, Nat.reduceSub, Nat.reduceBEq, Nat.reduceLT, Nat.reduceLeDiff, reduceCtorEq, Int.reduceNeg, Int.reduceEq, String.reduceEq, Int.reduceLT, Int.reduceLE, Int.reduceToNat, Int.reduceAdd, Int.reduceMul, Int.reduceSub])
  simp only [Scan.closed]
  cases q <;> cases s <;> simp
  omega
def tb_specClosed : List Blk → List AV → Option (List Blk × AV × Prop)
  | [.cells 3 false z [.agg [.bool q, .bool s, .int .i64 d]]], [.ptr 0 0 0 1] => some ([.cells 3 false (.agg [.bool false, .bool false, .int .i64 0]) [.agg [.bool q, .bool s, .int .i64 d]]], .bool (Scan.mk q s d.toNat).closed, (z = .agg [.bool false, .bool false, .int .i64 0]) ∧ (0 ≤ d))
  | _, _ => none
theorem tb_specClosed_ok : ∀ E args E' res p, tb_specClosed E args = some (E', res, p) → p → SpecE Try.prog 234 E args E' res := by
  intro E args E' res p h hp
  unfold tb_specClosed at h
  split at h
  · simp only [Option.some.injEq, Prod.mk.injEq] at h
    obtain ⟨rfl, rfl, rfl⟩ := h
    obtain ⟨rfl, hp⟩ := hp
    exact (specClosed _ _ _ hp)
  · cases h

def T_specSee : Tbl := fun g E args => nilT g E args
theorem T_specSee_ok : TblOK Try.prog T_specSee := nilT_ok
set_option maxRecDepth 100000 in
set_option maxHeartbeats 4000000 in
theorem specSee (q s : Bool) (d : Int) (c : UInt8) (hd : 0 ≤ d ∧ d ≤ 100000000) : SpecE Try.prog 233 [.cells 3 false (.agg [.bool false, .bool false, .int .i64 0]) [.agg [.bool q, .bool s, .int .i64 d]]] [.ptr 0 0 0 1, enc_u8 c] [.cells 3 false (.agg [.bool false, .bool false, .int .i64 0]) [.agg [.bool ((Scan.mk q s d.toNat).see c).q, .bool ((Scan.mk q s d.toNat).see c).s, .int .i64 ((Scan.mk q s d.toNat).see c).d]]] (.tuple []) := by
  refine specFE (C := T_specSee) (wr := false) (D := fun _ => []) (U := fun _ => none) (E := [.cells 3 false (.agg [.bool false, .bool false, .int .i64 0]) [.agg [.bool q, .bool s, .int .i64 d]]]) (E' := [.cells 3 false (.agg [.bool false, .bool false, .int .i64 0]) [.agg [.bool ((Scan.mk q s d.toNat).see c).q, .bool ((Scan.mk q s d.toNat).see c).s, .int .i64 ((Scan.mk q s d.toNat).see c).d]]]) (res := []) [] Try.Ty.mixed T_specSee_ok Try.func233 (nE := 1) (nA := 2) (by decide +kernel) rfl rfl ?_
  simp only [Try.f233, bodyOf, rlOf]
  rw [W_V]
  simp (config := {maxSteps := 2000000}) only [T_specSee, go_sem, reduceIte, Nat.reduceEqDiff, Nat.reduceAdd, Nat.reduceMul, Nat.reduceSub, Nat.reduceBEq, Nat.reduceLT, Nat.reduceLeDiff, reduceCtorEq, Int.reduceNeg, Int.reduceEq, String.reduceEq, Int.reduceLT, Int.reduceLE, Int.reduceToNat, Int.reduceAdd, Int.reduceMul, Int.reduceSub]
  (try simp (config := {maxSteps := 2000000}) only [gimp, impB, isT, go_sem, reduceIte, Nat.reduceEqDiff, Nat.reduceAdd, Nat.reduceMul, Nat.reduceSub, Nat.reduceBEq, Nat.reduceLT, Nat.reduceLeDiff, reduceCtorEq, Int.reduceNeg, Int.reduceEq, String.reduceEq, Int.reduceLT, Int.reduceLE, Int.reduceToNat, Int.reduceAdd, Int.reduceMul, Int.reduceSub])
  have hdn : ((d.toNat : Nat) : Int) = d := by omega
  have hz : d.toNat = 0 ↔ d = 0 := by omega
  have hp : 0 < d.toNat ↔ 0 < d := by omega
  (repeat' (first | refine And.intro ?_ ?_ | intro _))
  all_goals (try first | omega | assumption | contradiction)
  all_goals (simp only [Scan.see, hz, hp])
  all_goals ((repeat' split) <;> simp_all <;> omega)
def tb_specSee : List Blk → List AV → Option (List Blk × AV × Prop)
  | [.cells 3 false z [.agg [.bool q, .bool s, .int .i64 d]]], [.ptr 0 0 0 1, a1] => some ([.cells 3 false (.agg [.bool false, .bool false, .int .i64 0]) [.agg [.bool ((Scan.mk q s d.toNat).see (dec_u8 a1)).q, .bool ((Scan.mk q s d.toNat).see (dec_u8 a1)).s, .int .i64 ((Scan.mk q s d.toNat).see (dec_u8 a1)).d]]], .tuple [], (z = .agg [.bool false, .bool false, .int .i64 0]) ∧ (0 ≤ d ∧ d ≤ 100000000) ∧ argOK a1 (enc_u8 (dec_u8 a1)))
  | _, _ => none
theorem tb_specSee_ok : ∀ E args E' res p, tb_specSee E args = some (E', res, p) → p → SpecE Try.prog 233 E args E' res := by
  intro E args E' res p h hp
  unfold tb_specSee at h
  split at h
  · simp only [Option.some.injEq, Prod.mk.injEq] at h
    obtain ⟨rfl, rfl, rfl⟩ := h
    obtain ⟨rfl, hp⟩ := hp
    exact SpecE.args (specSee _ _ _ _ hp.1) (.cons (argOK.refl _) (.cons hp.2 .nil))
  · cases h

def T_specEnds : Tbl := fun g E args => (addT (addT nilT 234 Go.Proofs.Try.Lists.tb_specClosed) 233 Go.Proofs.Try.Lists.tb_specSee) g E args
theorem T_specEnds_ok : TblOK Try.prog T_specEnds := (addT_ok (addT_ok nilT_ok (by decide +kernel) Go.Proofs.Try.Lists.tb_specClosed_ok) (by decide +kernel) Go.Proofs.Try.Lists.tb_specSee_ok)
set_option maxRecDepth 100000 in
set_option maxHeartbeats 4000000 in
theorem specEnds (s : List UInt8) (hs : s.length ≤ 100000000) : SpecE Try.prog 140 [] [.str s] [] (.bool (endsS s)) := by
  refine specF0 (C := T_specEnds) (wr := false) (D := fun _ => []) (U := fun _ => none) (res := [.bool (endsS s)]) Try.Ty.mixed T_specEnds_ok Try.func140 (nA := 1) (by decide +kernel) rfl (fun _ => rfl) ?_
  simp only [Try.f140, bodyOf, rlOf]
  rw [W_V]
  simp (config := {maxSteps := 2000000}) only [T_specEnds, Go.Proofs.Try.Lists.tb_specClosed, Go.Proofs.Try.Lists.tb_specSee, go_sem, reduceIte, Nat.reduceEqDiff, Nat.reduceAdd, Nat.reduceMul, Nat.reduceSub, Nat.reduceBEq, Nat.reduceLT, Nat.reduceLeDiff, reduceCtorEq, Int.reduceNeg, Int.reduceEq, String.reduceEq, Int.reduceLT, Int.reduceLE, Int.reduceToNat, Int.reduceAdd, Int.reduceMul, Int.reduceSub]
  (try simp (config := {maxSteps := 2000000}) only [gimp, impB, isT, go_sem, reduceIte, Nat.reduceEqDiff, Nat.reduceAdd, Nat.reduceMul, Nat.reduceSub, Nat.reduceBEq, Nat.reduceLT, Nat.reduceLeDiff, reduceCtorEq, Int.reduceNeg, Int.reduceEq, String.reduceEq, Int.reduceLT, Int.reduceLE, Int.reduceToNat, Int.reduceAdd, Int.reduceMul, Int.reduceSub])
  refine VL_inv (X := Nat) (fun x => ⟨[(0, .str s), (3, .ptr 64 0 0 1), (6, .int .i64 s.length), (7, .int .i64 x)], [(64, .cells 3 false (.agg [.bool false, .bool false, .int .i64 0]) [.agg [.bool (scan0.run (s.take x)).q, .bool (scan0.run (s.take x)).s, .int .i64 (scan0.run (s.take x)).d]])]⟩) (fun x => x ≤ s.length) (fun x => s.length - x) 0 ?_ ?_ ?_
  · simp only [go_sem, go_sem, reduceIte, Nat.reduceEqDiff, Nat.reduceAdd, Nat.reduceMul, Nat.reduceSub, Nat.reduceBEq, Nat.reduceLT, Nat.reduceLeDiff, reduceCtorEq, Int.reduceNeg, Int.reduceEq, String.reduceEq, Int.reduceLT, Int.reduceLE, Int.reduceToNat, Int.reduceAdd, Int.reduceMul, Int.reduceSub]
    try rfl
  · exact Nat.zero_le _
  rintro x hx
  simp (config := {maxSteps := 2000000}) only [T_specEnds, Go.Proofs.Try.Lists.tb_specClosed, Go.Proofs.Try.Lists.tb_specSee, go_sem, reduceIte, Nat.reduceEqDiff, Nat.reduceAdd, Nat.reduceMul, Nat.reduceSub, Nat.reduceBEq, Nat.reduceLT, Nat.reduceLeDiff, reduceCtorEq, Int.reduceNeg, Int.reduceEq, String.reduceEq, Int.reduceLT, Int.reduceLE, Int.reduceToNat, Int.reduceAdd, Int.reduceMul, Int.reduceSub]
  (try simp (config := {maxSteps := 2000000}) only [gimp, impB, isT, go_sem, reduceIte, Nat.reduceEqDiff, Nat.reduceAdd, Nat.reduceMul, Nat.reduceSub, Nat.reduceBEq, Nat.reduceLT, Nat.reduceLeDiff, reduceCtorEq, Int.reduceNeg, Int.reduceEq, String.reduceEq, Int.reduceLT, Int.reduceLE, Int.reduceToNat, Int.reduceAdd, Int.reduceMul, Int.reduceSub])
  have h1 := Scan.run_d (s.take x) scan0
  have h2 : (s.take x).length ≤ s.length := by rw [List.length_take]; omega
  have h3 : scan0.d = 0 := rfl
  (repeat' (first | refine And.intro ?_ ?_ | intro _))
  all_goals (try first | omega | assumption | contradiction)
  · refine ⟨x + 1, ⟨by omega, ?_⟩, by omega, by omega⟩
    rw [Scan.run_take (by omega)]
  · have : x = s.length := by omega
    subst this
    rw [List.take_length]; rfl
def tb_specEnds : List Blk → List AV → Option (List Blk × AV × Prop)
  | [], [.str s] => some ([], .bool (endsS s), (s.length ≤ 100000000))
  | _, _ => none
theorem tb_specEnds_ok : ∀ E args E' res p, tb_specEnds E args = some (E', res, p) → p → SpecE Try.prog 140 E args E' res := by
  intro E args E' res p h hp
  unfold tb_specEnds at h
  split at h
  · simp only [Option.some.injEq, Prod.mk.injEq] at h
    obtain ⟨rfl, rfl, rfl⟩ := h
    exact (specEnds _ hp)
  · cases h

def T_specElements : Tbl := fun g E args => nilT g E args
theorem T_specElements_ok : TblOK Try.prog T_specElements := nilT_ok
set_option maxRecDepth 100000 in
set_option maxHeartbeats 4000000 in
theorem specElements (s : List UInt8) : SpecE Try.prog 141 [] [.str s] [.cells 1 false (.str []) [.str s]] (.clo 235 0 [.ptr 0 0 0 1]) := by
  refine specFE (C := T_specElements) (wr := false) (D := fun _ => []) (U := fun _ => none) (E := []) (E' := [.cells 1 false (.str []) [.str s]]) (res := [.clo 235 0 [.ptr 0 0 0 1]]) [32] Try.Ty.mixed T_specElements_ok Try.func141 (nE := 0) (nA := 1) (by decide +kernel) rfl rfl ?_
  simp only [Try.f141, bodyOf, rlOf]
  rw [W_V]
  simp (config := {maxSteps := 2000000}) only [T_specElements, go_sem, reduceIte, Nat.reduceEqDiff, Nat.reduceAdd, Nat.reduceMul, Nat.reduceSub, Nat.reduceBEq, Nat.reduceLT, Nat.reduceLeDiff, reduceCtorEq, Int.reduceNeg, Int.reduceEq, String.reduceEq, Int.reduceLT, Int.reduceLE, Int.reduceToNat, Int.reduceAdd, Int.reduceMul, Int.reduceSub]
  (try simp (config := {maxSteps := 2000000}) only [gimp, impB, isT, go_sem, reduceIte, Nat.reduceEqDiff, Nat.reduceAdd, Nat.reduceMul, Nat.reduceSub, Nat.reduceBEq, Nat.reduceLT, Nat.reduceLeDiff, reduceCtorEq, Int.reduceNeg, Int.reduceEq, String.reduceEq, Int.reduceLT, Int.reduceLE, Int.reduceToNat, Int.reduceAdd, Int.reduceMul, Int.reduceSub])
def tb_specElements : List Blk → List AV → Option (List Blk × AV × Prop)
  | [], [.str s] => some ([.cells 1 false (.str []) [.str s]], .clo 235 0 [.ptr 0 0 0 1], True)
  | _, _ => none
theorem tb_specElements_ok : ∀ E args E' res p, tb_specElements E args = some (E', res, p) → p → SpecE Try.prog 141 E args E' res := by
  intro E args E' res p h hp
  unfold tb_specElements at h
  split at h
  · simp only [Option.some.injEq, Prod.mk.injEq] at h
    obtain ⟨rfl, rfl, rfl⟩ := h
    exact (specElements _)
  · cases h

noncomputable def lcS : LoopC := lcOf Try.f35 21
noncomputable def recS : Blk := .loop lcS .ready none [(10, .clo 235 0 [.ptr 1 0 0 1]), (4, .ptr 2 0 0 1)]
def DS : Nat → List Nat := fun i => if i = dN then [21] else []

def T_yldS0 : Tbl := addT nilT 142 Oct.tb_specTrim
theorem T_yldS0_ok : TblOK Try.prog T_yldS0 := addT_ok nilT_ok (by decide +kernel) Oct.tb_specTrim_ok
set_option maxRecDepth 100000 in
set_option maxHeartbeats 4000000 in
theorem yldS (s p : List UInt8) (l : List (List UInt8)) (hp : p.length ≤ maxLen) (hl : l.length ≤ 200000000) :
    SpecE Try.prog yldF (recS :: [.cells 1 false (.str []) [.str s], .cells 1 false .nils [.ref 3 0 l.length l.length], .cells 1 false (.str []) (l.map .str)]) (.yld 0 :: [.str p])
      [recS, .cells 1 false (.str []) [.str s], .cells 1 false .nils [.ref 3 0 (l ++ keepE [p]).length (l ++ keepE [p]).length], .cells 1 false (.str []) ((l ++ keepE [p]).map .str)] (.bool true) := by
  refine specY (C := T_yldS0) (wr := false) (D := DS) (U := fun _ => none) (nE := 4) [] Try.Ty.mixed T_yldS0_ok (by decide +kernel) rfl rfl ?_
  have hA : lcS.assign = lcS.assign := rfl
  have hB : lcS.body = lcS.body := rfl
  conv at hA => rhs; simp only [lcS, lcOf, rangeIn, bodyOf, Try.f35]
  conv at hB => rhs; simp only [lcS, lcOf, rangeIn, bodyOf, Try.f35]
  have hP : lcS.ps.toList = [11] := rfl
  rw [hA, W_V]
  simp (config := {maxSteps := 200000000}) only [hP, recS, T_yldS0, Oct.tb_specTrim, go_sem, go_sem, reduceIte, Nat.reduceEqDiff, Nat.reduceAdd, Nat.reduceMul, Nat.reduceSub, Nat.reduceBEq, Nat.reduceLT, Nat.reduceLeDiff, reduceCtorEq, Int.reduceNeg, Int.reduceEq, String.reduceEq, Int.reduceLT, Int.reduceLE, Int.reduceToNat, Int.reduceAdd, Int.reduceMul, Int.reduceSub, true_and]
  rw [hB]
  simp (config := {maxSteps := 200000000}) only [hP, recS, T_yldS0, Oct.tb_specTrim, go_sem, go_sem, reduceIte, Nat.reduceEqDiff, Nat.reduceAdd, Nat.reduceMul, Nat.reduceSub, Nat.reduceBEq, Nat.reduceLT, Nat.reduceLeDiff, reduceCtorEq, Int.reduceNeg, Int.reduceEq, String.reduceEq, Int.reduceLT, Int.reduceLE, Int.reduceToNat, Int.reduceAdd, Int.reduceMul, Int.reduceSub, true_and]
  clear hA hB hP
  refine ⟨hp, fun h => ?_, fun h => ?_⟩
  · have e : keepE [p] = [trimS p] := by simp [keepE, h]
    rw [e]
    refine ⟨by omega, ?_⟩
    simp
  · have e : keepE [p] = [] := by simp [keepE, h]
    rw [e, List.append_nil]
    simp

def tb_yldS : List Blk → List AV → Option (List Blk × AV × Prop)
  | [b0, .cells 1 false d1 [.str s], .cells 1 false d2 [.ref 3 0 n m], .cells 1 false d3 c], [.yld 0, .str p] =>
    some ([b0, .cells 1 false d1 [.str s], .cells 1 false d2 [.ref 3 0 (c.length + (keepE [p]).length) (c.length + (keepE [p]).length)], .cells 1 false d3 (c ++ (keepE [p]).map .str)], .bool true,
      b0 = recS ∧ d1 = .str [] ∧ d2 = .nils ∧ d3 = .str [] ∧ n = c.length ∧ m = c.length ∧ (c.map toStr).map .str = c ∧ p.length ≤ maxLen ∧ c.length ≤ 200000000)
  | _, _ => none
theorem tb_yldS_ok : ∀ E args E' res q, tb_yldS E args = some (E', res, q) → q → SpecE Try.prog yldF E args E' res := by
  intro E args E' res q h hq
  unfold tb_yldS at h
  split at h
  · rename_i b0 d1 s d2 n m d3 c p
    simp only [Option.some.injEq, Prod.mk.injEq] at h
    obtain ⟨rfl, rfl, rfl⟩ := h
    obtain ⟨rfl, rfl, rfl, rfl, rfl, rfl, h1, h2, h3⟩ := hq
    have := yldS s p (c.map toStr) h2 (by rw [List.length_map]; exact h3)
    simp only [List.map_append, h1, List.length_append, List.length_map] at this
    exact this
  · cases h
def yT : Tbl := addT nilT yldF tb_yldS
theorem yT_ok : TblOK Try.prog yT := addT_ok nilT_ok (by simp) tb_yldS_ok

def T_specElementsF : Tbl := fun g E args => (addT (addT yT 234 Go.Proofs.Try.Lists.tb_specClosed) 233 Go.Proofs.Try.Lists.tb_specSee) g E args
theorem T_specElementsF_ok : TblOK Try.prog T_specElementsF := (addT_ok (addT_ok yT_ok (by decide +kernel) Go.Proofs.Try.Lists.tb_specClosed_ok) (by decide +kernel) Go.Proofs.Try.Lists.tb_specSee_ok)
set_option maxRecDepth 100000 in
set_option maxHeartbeats 4000000 in
theorem specElementsF (s : List UInt8) (l : List (List UInt8)) (hs : s.length ≤ 100000000) (hl : l.length ≤ 10) : SpecE Try.prog 235 [recS, .cells 1 false (.str []) [.str s], .cells 1 false .nils [.ref 3 0 l.length l.length], .cells 1 false (.str []) (l.map .str)] [.yld 0, .ptr 1 0 0 1] [recS, .cells 1 false (.str []) [.str s], .cells 1 false .nils [.ref 3 0 (l ++ keepE (elemsS s)).length (l ++ keepE (elemsS s)).length], .cells 1 false (.str []) ((l ++ keepE (elemsS s)).map .str)] (.tuple []) := by
  refine specFE (C := T_specElementsF) (wr := false) (D := fun _ => []) (U := fun _ => none) (E := [recS, .cells 1 false (.str []) [.str s], .cells 1 false .nils [.ref 3 0 l.length l.length], .cells 1 false (.str []) (l.map .str)]) (E' := [recS, .cells 1 false (.str []) [.str s], .cells 1 false .nils [.ref 3 0 (l ++ keepE (elemsS s)).length (l ++ keepE (elemsS s)).length], .cells 1 false (.str []) ((l ++ keepE (elemsS s)).map .str)]) (res := []) [] Try.Ty.mixed T_specElementsF_ok Try.func235 (nE := 4) (nA := 2) (by decide +kernel) rfl rfl ?_
  simp only [Try.f235, bodyOf, rlOf]
  rw [W_V]
  simp (config := {maxSteps := 2000000}) only [T_specElementsF, Go.Proofs.Try.Lists.tb_specClosed, Go.Proofs.Try.Lists.tb_specSee, go_sem, reduceIte, Nat.reduceEqDiff, Nat.reduceAdd, Nat.reduceMul, Nat.reduceSub, Nat.reduceBEq, Nat.reduceLT, Nat.reduceLeDiff, reduceCtorEq, Int.reduceNeg, Int.reduceEq, String.reduceEq, Int.reduceLT, Int.reduceLE, Int.reduceToNat, Int.reduceAdd, Int.reduceMul, Int.reduceSub, yT, tb_yldS, recS]
  (try simp (config := {maxSteps := 2000000}) only [gimp, impB, isT, go_sem, reduceIte, Nat.reduceEqDiff, Nat.reduceAdd, Nat.reduceMul, Nat.reduceSub, Nat.reduceBEq, Nat.reduceLT, Nat.reduceLeDiff, reduceCtorEq, Int.reduceNeg, Int.reduceEq, String.reduceEq, Int.reduceLT, Int.reduceLE, Int.reduceToNat, Int.reduceAdd, Int.reduceMul, Int.reduceSub])
  refine VL_inv (X := Nat × Nat × Scan × List (List UInt8)) (fun y => ⟨[(8, .int .i64 y.1), (7, .int .i64 s.length), (4, .int .i64 y.2.1), (3, .ptr 64 0 0 1), (0, .yld 0), (1, .ptr 1 0 0 1)],
    [(64, .cells 3 false (.agg [.bool false, .bool false, .int .i64 0]) [.agg [.bool y.2.2.1.q, .bool y.2.2.1.s, .int .i64 y.2.2.1.d]]), (0, recS), (1, .cells 1 false (.str []) [.str s]), (2, .cells 1 false .nils [.ref 3 0 (l ++ keepE y.2.2.2).length (l ++ keepE y.2.2.2).length]), (3, .cells 1 false (.str []) ((l ++ keepE y.2.2.2).map .str))]⟩)
    (fun y => y.1 ≤ s.length ∧ y.2.1 ≤ y.1 ∧ y.2.2.1.d ≤ y.1 ∧ y.2.2.2.length ≤ y.2.1 ∧ elemsS s = y.2.2.2 ++ elemsGo y.2.2.1 ((s.take y.1).drop y.2.1) (s.drop y.1)) (fun y => s.length - y.1) (0, 0, scan0, []) ?_ ?_ ?_
  · simp only [recS, go_sem, go_sem, reduceIte, Nat.reduceEqDiff, Nat.reduceAdd, Nat.reduceMul, Nat.reduceSub, Nat.reduceBEq, Nat.reduceLT, Nat.reduceLeDiff, reduceCtorEq, Int.reduceNeg, Int.reduceEq, String.reduceEq, Int.reduceLT, Int.reduceLE, Int.reduceToNat, Int.reduceAdd, Int.reduceMul, Int.reduceSub, keepE, List.filter_nil]
    try rfl
  · exact ⟨Nat.zero_le _, Nat.le_refl _, Nat.le_refl _, Nat.le_refl _, by simp [elemsS]⟩
  rintro ⟨i, fr, x, dn⟩ ⟨i1, i2, i3, i4, i5⟩
  simp only at i1 i2 i3 i4 i5
  simp (config := {maxSteps := 2000000}) only [T_specElementsF, Go.Proofs.Try.Lists.tb_specClosed, Go.Proofs.Try.Lists.tb_specSee, go_sem, reduceIte, Nat.reduceEqDiff, Nat.reduceAdd, Nat.reduceMul, Nat.reduceSub, Nat.reduceBEq, Nat.reduceLT, Nat.reduceLeDiff, reduceCtorEq, Int.reduceNeg, Int.reduceEq, String.reduceEq, Int.reduceLT, Int.reduceLE, Int.reduceToNat, Int.reduceAdd, Int.reduceMul, Int.reduceSub, yT, tb_yldS, recS]
  (try simp (config := {maxSteps := 2000000}) only [gimp, impB, isT, go_sem, reduceIte, Nat.reduceEqDiff, Nat.reduceAdd, Nat.reduceMul, Nat.reduceSub, Nat.reduceBEq, Nat.reduceLT, Nat.reduceLeDiff, reduceCtorEq, Int.reduceNeg, Int.reduceEq, String.reduceEq, Int.reduceLT, Int.reduceLE, Int.reduceToNat, Int.reduceAdd, Int.reduceMul, Int.reduceSub])
  have hm : ∀ (σ : Nat → Nat) (a b : List (List UInt8)), ((a.map AV.str) ++ (b.map AV.str)).map (ren σ) = (a ++ b).map AV.str := fun σ a b => by rw [← List.map_append, ren_map (fun _ => rfl)]
  have hk : ∀ a b : List (List UInt8), (l ++ keepE a).length + (keepE b).length = (l ++ keepE (a ++ b)).length := fun a b => by rw [keepE_append]; simp only [List.length_append]; omega
  have hj : ∀ a b : List (List UInt8), (l ++ keepE a) ++ keepE b = l ++ keepE (a ++ b) := fun a b => by rw [keepE_append, List.append_assoc]
  have hle : ∀ a : List (List UInt8), (keepE a).length ≤ a.length := fun a => by
    have := List.length_filter_le (fun e => !decide (e = [])) (a.map trimS)
    simpa [keepE] using this
  have hd := hle dn
  have hmx : (200000000 : Nat) ≤ maxLen := by decide
  simp only [hm, hk, hj]
  have next : ∀ hlt : i < s.length, ¬ (s.getD i 0 = 44 ∧ x.closed = true) → elemsS s = dn ++ elemsGo (x.see (s.getD i 0)) ((s.take (i + 1)).drop fr) (s.drop (i + 1)) := fun hlt hc => by
    rw [i5, drop_cons hlt, elemsGo_cons, if_neg hc, take_succ_getD 0 hlt, List.drop_append_of_le_length (by rw [List.length_take]; omega)]
  have hsd := Scan.see_d x (s.getD i 0)
  (repeat' (first | refine And.intro ?_ ?_ | intro _))
  all_goals (try first | omega | assumption | contradiction)
  · rw [List.length_drop, List.length_take]; omega
  · rw [List.length_append]; omega
  · rename_i h1 h2 h3 h4
    refine ⟨(i + 1, i + 1, x, dn ++ [(s.take i).drop fr]), ⟨⟨by simp only; omega, by simp only; omega⟩, ⟨rfl, rfl, rfl⟩, rfl, rfl⟩, ⟨by simp only; omega, Nat.le_refl _, by simp only; omega, by simp only [List.length_append, List.length_cons, List.length_nil]; omega, ?_⟩, by simp only; omega⟩
    simp only
    have e9 := drop_cons (s := s) (i := i) (by omega)
    have e8 : (s.take (i + 1)).drop (i + 1) = [] := List.drop_eq_nil_of_le (by rw [List.length_take]; omega)
    rw [i5, e9, elemsGo_cons, if_pos ⟨h2, h4⟩, List.append_assoc, e8]
    rfl
  · rename_i h1 h2 h3
    refine ⟨(i + 1, fr, x.see (s.getD i 0), dn), ⟨⟨by simp only; omega, rfl⟩, ⟨rfl, rfl, rfl⟩, rfl, rfl⟩, ⟨by simp only; omega, by simp only; omega, by simp only; omega, i4, next (by omega) (fun ⟨e1, e2⟩ => by
      have e3 : (Scan.mk x.q x.s x.d).closed = true := e2
      rw [decide_eq_true e1, e3] at h3; cases h3)⟩, by simp only; omega⟩
  · rename_i h1 h2
    refine ⟨(i + 1, fr, x.see (s.getD i 0), dn), ⟨⟨by simp only; omega, rfl⟩, ⟨rfl, rfl, rfl⟩, rfl, rfl⟩, ⟨by simp only; omega, by simp only; omega, by simp only; omega, i4, next (by omega) (fun ⟨e1, e2⟩ => h2 e1)⟩, by simp only; omega⟩
  · rw [List.length_drop]; omega
  · rw [List.length_append]; omega
  all_goals (
    have e0 : i = s.length := by omega
    subst e0
    rw [List.take_length, List.drop_length] at i5
    have e : elemsS s = dn ++ [s.drop fr] := i5
    rw [e])

/-- As the table has it: from an empty list on. -/
def tb_elementsF : List Blk → List AV → Option (List Blk × AV × Prop)
  | [b0, .cells 1 false d1 [.str s], .cells 1 false d2 [.ref 3 0 n m], .cells 1 false d3 c], [.yld 0, .ptr 1 0 0 1] =>
    some ([b0, .cells 1 false d1 [.str s], .cells 1 false d2 [.ref 3 0 (keepE (elemsS s)).length (keepE (elemsS s)).length], .cells 1 false d3 ((keepE (elemsS s)).map .str)], .tuple [],
      b0 = recS ∧ d1 = .str [] ∧ d2 = .nils ∧ d3 = .str [] ∧ n = 0 ∧ m = 0 ∧ c = [] ∧ s.length ≤ 100000000)
  | _, _ => none
theorem tb_elementsF_ok : ∀ E args E' res q, tb_elementsF E args = some (E', res, q) → q → SpecE Try.prog 235 E args E' res := by
  intro E args E' res q h hq
  unfold tb_elementsF at h
  split at h
  · simp only [Option.some.injEq, Prod.mk.injEq] at h
    obtain ⟨rfl, rfl, rfl⟩ := h
    obtain ⟨rfl, rfl, rfl, rfl, rfl, rfl, rfl, h3⟩ := hq
    have := specElementsF _ [] h3 (by decide)
    simpa using this
  · cases h
def eT : Tbl := addT nilT 235 tb_elementsF
theorem eT_ok : TblOK Try.prog eT := addT_ok nilT_ok (by decide +kernel) tb_elementsF_ok

def T_specSplit : Tbl := fun g E args => (addT (addT (addT eT 140 Go.Proofs.Try.Lists.tb_specEnds) 142 Go.Proofs.Try.Oct.tb_specTrim) 141 Go.Proofs.Try.Lists.tb_specElements) g E args
theorem T_specSplit_ok : TblOK Try.prog T_specSplit := (addT_ok (addT_ok (addT_ok eT_ok (by decide +kernel) Go.Proofs.Try.Lists.tb_specEnds_ok) (by decide +kernel) Go.Proofs.Try.Oct.tb_specTrim_ok) (by decide +kernel) Go.Proofs.Try.Lists.tb_specElements_ok)
set_option maxRecDepth 100000 in
set_option maxHeartbeats 4000000 in
theorem specSplit (s : List UInt8) (hs : s.length ≤ 100000000) : SpecE Try.prog 35 [] [.str s] [] (.tuple [enc_strs (splitS s), .bool (endsS s)]) := by
  refine specFEM (C := T_specSplit) (wr := false) (D := DS) (U := fun _ => none) (E := []) (E' := []) (res := [enc_strs (splitS s), .bool (endsS s)]) [] Try.Ty.mixed T_specSplit_ok Try.func35 (nE := 0) (nA := 1) (by decide +kernel) rfl rfl ?_
  simp only [Try.f35, bodyOf, rlOf]
  rw [W_V]
  simp (config := {maxSteps := 2000000}) only [T_specSplit, Go.Proofs.Try.Lists.tb_specEnds, Go.Proofs.Try.Oct.tb_specTrim, Go.Proofs.Try.Lists.tb_specElements, go_sem, reduceIte, Nat.reduceEqDiff, Nat.reduceAdd, Nat.reduceMul, Nat.reduceSub, Nat.reduceBEq, Nat.reduceLT, Nat.reduceLeDiff, reduceCtorEq, Int.reduceNeg, Int.reduceEq, String.reduceEq, Int.reduceLT, Int.reduceLE, Int.reduceToNat, Int.reduceAdd, Int.reduceMul, Int.reduceSub, eT, tb_elementsF, recS, FinEM, FinEvM]
  (try simp (config := {maxSteps := 2000000}) only [gimp, impB, isT, go_sem, reduceIte, Nat.reduceEqDiff, Nat.reduceAdd, Nat.reduceMul, Nat.reduceSub, Nat.reduceBEq, Nat.reduceLT, Nat.reduceLeDiff, reduceCtorEq, Int.reduceNeg, Int.reduceEq, String.reduceEq, Int.reduceLT, Int.reduceLE, Int.reduceToNat, Int.reduceAdd, Int.reduceMul, Int.reduceSub])
  refine ⟨hs, fun h => ⟨by simp [splitS, h], h.symm⟩, fun h => ?_⟩
  refine VR_intro ⟨[(10, .clo 235 0 [.ptr 176 0 0 1]), (4, .ptr 80 0 0 1)], [(176, .cells 1 false (.str []) [.str s]), (80, .cells 1 false .nils [.ref 320 0 0 0]), (320, .cells 1 false (.str []) [])]⟩ lcS ?_ rfl rfl rfl rfl ?_
  · simp only [go_sem, go_sem, reduceIte, Nat.reduceEqDiff, Nat.reduceAdd, Nat.reduceMul, Nat.reduceSub, Nat.reduceBEq, Nat.reduceLT, Nat.reduceLeDiff, reduceCtorEq, Int.reduceNeg, Int.reduceEq, String.reduceEq, Int.reduceLT, Int.reduceLE, Int.reduceToNat, Int.reduceAdd, Int.reduceMul, Int.reduceSub]
  simp (config := {maxSteps := 2000000}) only [T_specSplit, Go.Proofs.Try.Lists.tb_specEnds, Go.Proofs.Try.Oct.tb_specTrim, Go.Proofs.Try.Lists.tb_specElements, go_sem, reduceIte, Nat.reduceEqDiff, Nat.reduceAdd, Nat.reduceMul, Nat.reduceSub, Nat.reduceBEq, Nat.reduceLT, Nat.reduceLeDiff, reduceCtorEq, Int.reduceNeg, Int.reduceEq, String.reduceEq, Int.reduceLT, Int.reduceLE, Int.reduceToNat, Int.reduceAdd, Int.reduceMul, Int.reduceSub, eT, tb_elementsF, recS, FinEM, FinEvM]
  (try simp (config := {maxSteps := 2000000}) only [gimp, impB, isT, go_sem, reduceIte, Nat.reduceEqDiff, Nat.reduceAdd, Nat.reduceMul, Nat.reduceSub, Nat.reduceBEq, Nat.reduceLT, Nat.reduceLeDiff, reduceCtorEq, Int.reduceNeg, Int.reduceEq, String.reduceEq, Int.reduceLT, Int.reduceLE, Int.reduceToNat, Int.reduceAdd, Int.reduceMul, Int.reduceSub])
  refine ⟨by decide +kernel, hs, ⟨?_, h.symm⟩, fun b hb => by cases hb; rfl⟩
  rw [List.take_length, splitS, if_pos h]
def tb_specSplit : List Blk → List AV → Option (List Blk × AV × Prop)
  | [], [.str s] => some ([], .tuple [enc_strs (splitS s), .bool (endsS s)], (s.length ≤ 100000000))
  | _, _ => none
theorem tb_specSplit_ok : ∀ E args E' res p, tb_specSplit E args = some (E', res, p) → p → SpecE Try.prog 35 E args E' res := by
  intro E args E' res p h hp
  unfold tb_specSplit at h
  split at h
  · simp only [Option.some.injEq, Prod.mk.injEq] at h
    obtain ⟨rfl, rfl, rfl⟩ := h
    exact (specSplit _ hp)
  · cases h

def T_specHasP : Tbl := fun g E args => (addT nilT 85 Go.Proofs.Try.Oct.tb_specFold) g E args
theorem T_specHasP_ok : TblOK Try.prog T_specHasP := (addT_ok nilT_ok (by decide +kernel) Go.Proofs.Try.Oct.tb_specFold_ok)
set_option maxRecDepth 100000 in
set_option maxHeartbeats 4000000 in
theorem specHasP (e w : List UInt8) (hs : e.length ≤ maxLen) : SpecE Try.prog 146 [.cells 1 false (.str []) [.str w]] [.str e, .ptr 0 0 0 1] [.cells 1 false (.str []) [.str w]] (.bool (foldS e w)) := by
  refine specFE (C := T_specHasP) (wr := false) (D := fun _ => []) (U := fun _ => none) (E := [.cells 1 false (.str []) [.str w]]) (E' := [.cells 1 false (.str []) [.str w]]) (res := [.bool (foldS e w)]) [] Try.Ty.mixed T_specHasP_ok Try.func146 (nE := 1) (nA := 2) (by decide +kernel) rfl rfl ?_
  simp only [Try.f146, bodyOf, rlOf]
  rw [W_V]
  simp (config := {maxSteps := 2000000}) only [T_specHasP, Go.Proofs.Try.Oct.tb_specFold, go_sem, reduceIte, Nat.reduceEqDiff, Nat.reduceAdd, Nat.reduceMul, Nat.reduceSub, Nat.reduceBEq, Nat.reduceLT, Nat.reduceLeDiff, reduceCtorEq, Int.reduceNeg, Int.reduceEq, String.reduceEq, Int.reduceLT, Int.reduceLE, Int.reduceToNat, Int.reduceAdd, Int.reduceMul, Int.reduceSub]
  (try simp (config := {maxSteps := 2000000}) only [gimp, impB, isT, go_sem, reduceIte, Nat.reduceEqDiff, Nat.reduceAdd, Nat.reduceMul, Nat.reduceSub, Nat.reduceBEq, Nat.reduceLT, Nat.reduceLeDiff, reduceCtorEq, Int.reduceNeg, Int.reduceEq, String.reduceEq, Int.reduceLT, Int.reduceLE, Int.reduceToNat, Int.reduceAdd, Int.reduceMul, Int.reduceSub])
  exact hs
def tb_specHasP : List Blk → List AV → Option (List Blk × AV × Prop)
  | [.cells 1 false d [.str w]], [.str e, .ptr 0 0 0 1] => some ([.cells 1 false (.str []) [.str w]], .bool (foldS e w), (d = .str []) ∧ (e.length ≤ maxLen))
  | _, _ => none
theorem tb_specHasP_ok : ∀ E args E' res p, tb_specHasP E args = some (E', res, p) → p → SpecE Try.prog 146 E args E' res := by
  intro E args E' res p h hp
  unfold tb_specHasP at h
  split at h
  · simp only [Option.some.injEq, Prod.mk.injEq] at h
    obtain ⟨rfl, rfl, rfl⟩ := h
    obtain ⟨rfl, hp⟩ := hp
    exact (specHasP _ _ hp)
  · cases h

def T_specHasF : Tbl := fun g E args => nilT g E args
theorem T_specHasF_ok : TblOK Try.prog T_specHasF := nilT_ok
set_option maxRecDepth 100000 in
set_option maxHeartbeats 4000000 in
theorem specHasF (l : List (List UInt8)) (w : List UInt8) (hl : l.length ≤ maxLen) (hq : ∀ x ∈ l, x.length ≤ maxLen) : SpecE Try.prog 145 [.cells 1 false (.str []) [.str w]] [enc_strs l, .clo 146 0 [.ptr 0 0 0 1]] [.cells 1 false (.str []) [.str w]] (.bool (l.any fun e => foldS e w)) := by
  exact Slc.has_S (by decide) (boxStr w) (fun _ => rfl) (q := fun x => x.length ≤ maxLen) (fun x hx => specHasP x w hx) l hq hl
def tb_specHasF : List Blk → List AV → Option (List Blk × AV × Prop)
  | [.cells 1 false d [.str w]], [a0, .clo 146 0 [.ptr 0 0 0 1]] => some ([.cells 1 false (.str []) [.str w]], .bool ((dec_strs a0).any fun e => foldS e w), (d = .str []) ∧ ((dec_strs a0).length ≤ maxLen) ∧ (∀ x ∈ (dec_strs a0), x.length ≤ maxLen) ∧ argOK a0 (enc_strs (dec_strs a0)))
  | _, _ => none
theorem tb_specHasF_ok : ∀ E args E' res p, tb_specHasF E args = some (E', res, p) → p → SpecE Try.prog 145 E args E' res := by
  intro E args E' res p h hp
  unfold tb_specHasF at h
  split at h
  · simp only [Option.some.injEq, Prod.mk.injEq] at h
    obtain ⟨rfl, rfl, rfl⟩ := h
    obtain ⟨rfl, hp⟩ := hp
    exact SpecE.args (specHasF _ _ hp.1 hp.2.1) (.cons hp.2.2 (.cons (argOK.refl _) .nil))
  · cases h

def T_specHas : Tbl := fun g E args => (addT (addT nilT 35 Go.Proofs.Try.Lists.tb_specSplit) 145 Go.Proofs.Try.Lists.tb_specHasF) g E args
theorem T_specHas_ok : TblOK Try.prog T_specHas := (addT_ok (addT_ok nilT_ok (by decide +kernel) Go.Proofs.Try.Lists.tb_specSplit_ok) (by decide +kernel) Go.Proofs.Try.Lists.tb_specHasF_ok)
set_option maxRecDepth 100000 in
set_option maxHeartbeats 4000000 in
theorem specHas (s w : List UInt8) (hs : s.length ≤ 100000000) : SpecE Try.prog 38 [] [.str s, .str w] [] (.bool (hasS s w)) := by
  refine specF0 (C := T_specHas) (wr := false) (D := fun _ => []) (U := fun _ => none) (res := [.bool (hasS s w)]) Try.Ty.mixed T_specHas_ok Try.func38 (nA := 2) (by decide +kernel) rfl (fun _ => rfl) ?_
  simp only [Try.f38, bodyOf, rlOf]
  rw [W_V]
  simp (config := {maxSteps := 2000000}) only [T_specHas, Go.Proofs.Try.Lists.tb_specSplit, Go.Proofs.Try.Lists.tb_specHasF, go_sem, reduceIte, Nat.reduceEqDiff, Nat.reduceAdd, Nat.reduceMul, Nat.reduceSub, Nat.reduceBEq, Nat.reduceLT, Nat.reduceLeDiff, reduceCtorEq, Int.reduceNeg, Int.reduceEq, String.reduceEq, Int.reduceLT, Int.reduceLE, Int.reduceToNat, Int.reduceAdd, Int.reduceMul, Int.reduceSub]
  (try simp (config := {maxSteps := 2000000}) only [gimp, impB, isT, go_sem, reduceIte, Nat.reduceEqDiff, Nat.reduceAdd, Nat.reduceMul, Nat.reduceSub, Nat.reduceBEq, Nat.reduceLT, Nat.reduceLeDiff, reduceCtorEq, Int.reduceNeg, Int.reduceEq, String.reduceEq, Int.reduceLT, Int.reduceLE, Int.reduceToNat, Int.reduceAdd, Int.reduceMul, Int.reduceSub])
  have hc := splitS_count s
  have hm : (100000001 : Nat) ≤ maxLen := by decide
  exact ⟨hs, ⟨by omega, fun x hx => by have := (splitS_mem hx).1; omega⟩, rfl⟩
def tb_specHas : List Blk → List AV → Option (List Blk × AV × Prop)
  | [], [.str s, .str w] => some ([], .bool (hasS s w), (s.length ≤ 100000000))
  | _, _ => none
theorem tb_specHas_ok : ∀ E args E' res p, tb_specHas E args = some (E', res, p) → p → SpecE Try.prog 38 E args E' res := by
  intro E args E' res p h hp
  unfold tb_specHas at h
  split at h
  · simp only [Option.some.injEq, Prod.mk.injEq] at h
    obtain ⟨rfl, rfl, rfl⟩ := h
    exact (specHas _ _ hp)
  · cases h

def T_specJoin : Tbl := fun g E args => (addT nilT 147 Go.Proofs.Try.Lib.tb_specJoin) g E args
theorem T_specJoin_ok : TblOK Try.prog T_specJoin := (addT_ok nilT_ok (by decide +kernel) Go.Proofs.Try.Lib.tb_specJoin_ok)
set_option maxRecDepth 100000 in
set_option maxHeartbeats 4000000 in
theorem specJoin (l : List (List UInt8)) (hn : l.length ≤ 1000000) (hj : (Lib.join l [44, 32]).length ≤ 140737488355328) : SpecE Try.prog 41 [] [enc_strs l] [] (.str (Lib.join l [44, 32])) := by
  refine specF0 (C := T_specJoin) (wr := false) (D := fun _ => []) (U := fun _ => none) (res := [.str (Lib.join l [44, 32])]) Try.Ty.mixed T_specJoin_ok Try.func41 (nA := 1) (by decide +kernel) rfl (fun _ => rfl) ?_
  simp only [Try.f41, bodyOf, rlOf]
  rw [W_V]
  simp (config := {maxSteps := 2000000}) only [T_specJoin, Go.Proofs.Try.Lib.tb_specJoin, go_sem, reduceIte, Nat.reduceEqDiff, Nat.reduceAdd, Nat.reduceMul, Nat.reduceSub, Nat.reduceBEq, Nat.reduceLT, Nat.reduceLeDiff, reduceCtorEq, Int.reduceNeg, Int.reduceEq, String.reduceEq, Int.reduceLT, Int.reduceLE, Int.reduceToNat, Int.reduceAdd, Int.reduceMul, Int.reduceSub]
  (try simp (config := {maxSteps := 2000000}) only [gimp, impB, isT, go_sem, reduceIte, Nat.reduceEqDiff, Nat.reduceAdd, Nat.reduceMul, Nat.reduceSub, Nat.reduceBEq, Nat.reduceLT, Nat.reduceLeDiff, reduceCtorEq, Int.reduceNeg, Int.reduceEq, String.reduceEq, Int.reduceLT, Int.reduceLE, Int.reduceToNat, Int.reduceAdd, Int.reduceMul, Int.reduceSub])
  exact ⟨hn, hj⟩
def tb_specJoin : List Blk → List AV → Option (List Blk × AV × Prop)
  | [], [a0] => some ([], .str (Lib.join (dec_strs a0) [44, 32]), ((dec_strs a0).length ≤ 1000000) ∧ ((Lib.join (dec_strs a0) [44, 32]).length ≤ 140737488355328) ∧ argOK a0 (enc_strs (dec_strs a0)))
  | _, _ => none
theorem tb_specJoin_ok : ∀ E args E' res p, tb_specJoin E args = some (E', res, p) → p → SpecE Try.prog 41 E args E' res := by
  intro E args E' res p h hp
  unfold tb_specJoin at h
  split at h
  · simp only [Option.some.injEq, Prod.mk.injEq] at h
    obtain ⟨rfl, rfl, rfl⟩ := h
    exact SpecE.args (specJoin _ hp.1 hp.2.1) (.cons hp.2.2 .nil)
  · cases h
end Go.Proofs.Try.Lists
