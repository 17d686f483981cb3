/- slices: the walks of the functions over predicates. No condition beyond those that a machine's numbers bring. -/
import Derived.Test.YtnfidlgiaaeleaaSlcM
import Derived.Test.YtnfidlgiaaeleaaTyp
import Derived.Test.YtnfidlgiaaeleaaProg
set_option linter.unusedVariables false
set_option linter.unusedSimpArgs false
namespace Go.Proofs.Try.Slc
open Go Go.Abs Go.Proofs Go.Mdl


def tbP_S (sz : Nat) (z : AV) (v : List AV) (p : List UInt8 → Bool) (q : List UInt8 → Prop) : List Blk → List AV → Option (List Blk × AV × Prop)
  | [.cells sz' false z' v'], [a, .ptr 0 0 0 1] => some ([.cells sz' false z' v'], .bool (p (toStr a)), sz' = sz ∧ z' = z ∧ v' = v ∧ a = AV.str (toStr a) ∧ q (toStr a))
  | _, _ => none
theorem tbP_S_ok {f : FuncId} {sz : Nat} {z : AV} {v : List AV} {p : List UInt8 → Bool} {q : List UInt8 → Prop} (hs : ∀ x, q x → SpecE Try.prog f [.cells sz false z v] [AV.str x, .ptr 0 0 0 1] [.cells sz false z v] (.bool (p x))) :
    ∀ E args E' res q', tbP_S sz z v p q E args = some (E', res, q') → q' → SpecE Try.prog f E args E' res := by
  intro E args E' res q' h hq
  unfold tbP_S at h
  split at h
  · rename_i sz' z' v' a
    simp only [Option.some.injEq, Prod.mk.injEq] at h
    obtain ⟨rfl, rfl, rfl⟩ := h
    obtain ⟨rfl, rfl, rfl, h1, h2⟩ := hq
    have := hs _ h2
    rw [← h1] at this; exact this
  · cases h
theorem idx_S {f : FuncId} (hy : ¬ f = 1000000) {sz : Nat} {z : AV} {v : List AV} (hv : BoxOK v) (hz : ∀ σ, ren σ z = z) {p : List UInt8 → Bool} {q : List UInt8 → Prop} (hs : ∀ x, q x → SpecE Try.prog f [.cells sz false z v] [AV.str x, .ptr 0 0 0 1] [.cells sz false z v] (.bool (p x)))
    (l : List (List UInt8)) (hq : ∀ x ∈ l, q x) (hl : l.length ≤ maxLen) :
    SpecE Try.prog 90 [.cells sz false z v] [.list 1 (l.map AV.str), .clo f 0 [.ptr 0 0 0 1]] [.cells sz false z v] (.int .i64 (idxP p l)) := by
  refine specFE (C := addT nilT f (tbP_S sz z v p q)) (wr := false) (D := fun _ => []) (U := fun _ => none) (E := [.cells sz false z v]) (E' := [.cells sz false z v]) (res := [.int .i64 (idxP p l)]) [] Try.Ty.mixed (addT_ok nilT_ok (by simp) (tbP_S_ok hs)) Try.func90 (nE := 1) (nA := 2) (by decide +kernel) rfl rfl ?_
  simp only [Try.f90, bodyOf, rlOf]
  rw [W_V]
  have hm : l.length ≤ 9223372036854775807 := hl
  obtain ⟨v1, v2, v3, v4⟩ := hv
  have v5 : ∀ L, contOK L v = True := fun L => contOK_pure v4
  simp only [tbP_S, hy, hz, v1, v2, v3, v5, go_sem, go_sem, reduceIte, Nat.reduceEqDiff, Nat.reduceAdd, Nat.reduceMul, Nat.reduceDiv, Nat.reduceMod, Nat.reduceSub, Nat.reduceBEq, Nat.reduceLT, Nat.reduceLeDiff, reduceCtorEq, Int.reduceNeg, Int.reduceEq, String.reduceEq, Int.reduceLT, Int.reduceLE, Int.reduceToNat, Int.reduceAdd, Int.reduceMul, Int.reduceSub, true_and]
  refine VL_inv (X := Nat) (fun k => ⟨[(0, .list 1 (l.map AV.str)), (1, .clo f 0 [.ptr 0 0 0 1]), (7, .int .i64 l.length), (8, .int .i64 k)], [(0, .cells sz false z v)]⟩) (fun k => k ≤ l.length ∧ (l.take k).any p = false) (fun k => l.length - k) 0 ?_ ?_ ?_
  · simp only [tbP_S, hy, hz, v1, v2, v3, v5, go_sem, go_sem, reduceIte, Nat.reduceEqDiff, Nat.reduceAdd, Nat.reduceMul, Nat.reduceDiv, Nat.reduceMod, Nat.reduceSub, Nat.reduceBEq, Nat.reduceLT, Nat.reduceLeDiff, reduceCtorEq, Int.reduceNeg, Int.reduceEq, String.reduceEq, Int.reduceLT, Int.reduceLE, Int.reduceToNat, Int.reduceAdd, Int.reduceMul, Int.reduceSub]
    try rfl
  · exact ⟨Nat.zero_le _, by simp⟩
  rintro k ⟨hk, hn⟩
  simp only [tbP_S, hy, hz, v1, v2, v3, v5, go_sem, go_sem, reduceIte, Nat.reduceEqDiff, Nat.reduceAdd, Nat.reduceMul, Nat.reduceDiv, Nat.reduceMod, Nat.reduceSub, Nat.reduceBEq, Nat.reduceLT, Nat.reduceLeDiff, reduceCtorEq, Int.reduceNeg, Int.reduceEq, String.reduceEq, Int.reduceLT, Int.reduceLE, Int.reduceToNat, Int.reduceAdd, Int.reduceMul, Int.reduceSub, true_and, toStr]
  refine ⟨fun hlt => ⟨by omega, hq _ (List.mem_of_getElem? (getD_of_lt (s := l) (i := k) (d := []) (by omega))), fun hp => (idxP_hit [] (by omega) hn hp).symm, fun hp => ⟨by omega, k + 1, by omega, ⟨by omega, by rw [any_take_succ [] (by omega) hn]; exact hp⟩, by omega⟩⟩, fun hge => ?_⟩
  have : k = l.length := by omega
  subst this
  rw [List.take_length] at hn
  exact (idxP_none hn).symm
theorem idxO_S {f : FuncId} (hy : ¬ f = 1000000) {sz : Nat} {z : AV} {v : List AV} (hv : BoxOK v) (hz : ∀ σ, ren σ z = z) {p : List UInt8 → Bool} {q : List UInt8 → Prop} (hs : ∀ x, q x → SpecE Try.prog f [.cells sz false z v] [AV.str x, .ptr 0 0 0 1] [.cells sz false z v] (.bool (p x)))
    (l : List (List UInt8)) (hq : ∀ x ∈ l, q x) (hl : l.length ≤ maxLen) (m1 m2 : Nat) (hm1 : m1 = l.length) (hm2 : m2 = l.length) :
    SpecE Try.prog 90 [.cells 1 false (AV.str []) (l.map AV.str), .cells sz false z v] [.ref 0 0 m1 m2, .clo f 0 [.ptr 1 0 0 1]] [.cells 1 false (AV.str []) (l.map AV.str), .cells sz false z v] (.int .i64 (idxP p l)) := by
  subst hm1
  subst hm2
  refine specFE (C := addT nilT f (tbP_S sz z v p q)) (wr := false) (D := fun _ => []) (U := fun _ => none) (E := [.cells 1 false (AV.str []) (l.map AV.str), .cells sz false z v]) (E' := [.cells 1 false (AV.str []) (l.map AV.str), .cells sz false z v]) (res := [.int .i64 (idxP p l)]) [] Try.Ty.mixed (addT_ok nilT_ok (by simp) (tbP_S_ok hs)) Try.func90 (nE := 2) (nA := 2) (by decide +kernel) rfl rfl ?_
  simp only [Try.f90, bodyOf, rlOf]
  rw [W_V]
  have hm : l.length ≤ 9223372036854775807 := hl
  obtain ⟨v1, v2, v3, v4⟩ := hv
  have v5 : ∀ L, contOK L v = True := fun L => contOK_pure v4
  simp only [tbP_S, hy, hz, v1, v2, v3, v5, go_sem, go_sem, reduceIte, Nat.reduceEqDiff, Nat.reduceAdd, Nat.reduceMul, Nat.reduceDiv, Nat.reduceMod, Nat.reduceSub, Nat.reduceBEq, Nat.reduceLT, Nat.reduceLeDiff, reduceCtorEq, Int.reduceNeg, Int.reduceEq, String.reduceEq, Int.reduceLT, Int.reduceLE, Int.reduceToNat, Int.reduceAdd, Int.reduceMul, Int.reduceSub, true_and]
  refine VL_inv (X := Nat) (fun k => ⟨[(0, .ref 0 0 l.length l.length), (1, .clo f 0 [.ptr 1 0 0 1]), (7, .int .i64 l.length), (8, .int .i64 k)], [(0, .cells 1 false (AV.str []) (l.map AV.str)), (1, .cells sz false z v)]⟩) (fun k => k ≤ l.length ∧ (l.take k).any p = false) (fun k => l.length - k) 0 ?_ ?_ ?_
  · simp only [tbP_S, hy, hz, v1, v2, v3, v5, go_sem, go_sem, reduceIte, Nat.reduceEqDiff, Nat.reduceAdd, Nat.reduceMul, Nat.reduceDiv, Nat.reduceMod, Nat.reduceSub, Nat.reduceBEq, Nat.reduceLT, Nat.reduceLeDiff, reduceCtorEq, Int.reduceNeg, Int.reduceEq, String.reduceEq, Int.reduceLT, Int.reduceLE, Int.reduceToNat, Int.reduceAdd, Int.reduceMul, Int.reduceSub]
    try rfl
  · exact ⟨Nat.zero_le _, by simp⟩
  rintro k ⟨hk, hn⟩
  simp only [tbP_S, hy, hz, v1, v2, v3, v5, go_sem, go_sem, reduceIte, Nat.reduceEqDiff, Nat.reduceAdd, Nat.reduceMul, Nat.reduceDiv, Nat.reduceMod, Nat.reduceSub, Nat.reduceBEq, Nat.reduceLT, Nat.reduceLeDiff, reduceCtorEq, Int.reduceNeg, Int.reduceEq, String.reduceEq, Int.reduceLT, Int.reduceLE, Int.reduceToNat, Int.reduceAdd, Int.reduceMul, Int.reduceSub, true_and, toStr]
  refine ⟨fun hlt => ⟨by omega, by omega, ?_, fun hp => ?_, fun hp => ⟨by omega, k + 1, by omega, ⟨by omega, ?_⟩, by omega⟩⟩, fun hge => ?_⟩
  · rw [Nat.zero_add]; exact hq _ (List.mem_of_getElem? (getD_of_lt (s := l) (i := k) (d := []) (by omega)))
  · rw [Nat.zero_add] at hp; exact (idxP_hit [] (by omega) hn hp).symm
  · rw [Nat.zero_add] at hp; rw [any_take_succ [] (by omega) hn]; exact hp
  · have : k = l.length := by omega
    subst this
    rw [List.take_length] at hn
    exact (idxP_none hn).symm

def tbP0_S (p : List UInt8 → Bool) (q : List UInt8 → Prop) : List Blk → List AV → Option (List Blk × AV × Prop)
  | [], [a] => some ([], .bool (p (toStr a)), a = AV.str (toStr a) ∧ q (toStr a))
  | _, _ => none
theorem tbP0_S_ok {f : FuncId} {p : List UInt8 → Bool} {q : List UInt8 → Prop} (hs : ∀ x, q x → SpecE Try.prog f [] [AV.str x] [] (.bool (p x))) :
    ∀ E args E' res q', tbP0_S p q E args = some (E', res, q') → q' → SpecE Try.prog f E args E' res := by
  intro E args E' res q' h hq
  unfold tbP0_S at h
  split at h
  · rename_i a
    simp only [Option.some.injEq, Prod.mk.injEq] at h
    obtain ⟨rfl, rfl, rfl⟩ := h
    have := hs _ hq.2
    rw [← hq.1] at this; exact this
  · cases h
theorem idx0_S {f : FuncId} (hy : ¬ f = 1000000) {p : List UInt8 → Bool} {q : List UInt8 → Prop} (hs : ∀ x, q x → SpecE Try.prog f [] [AV.str x] [] (.bool (p x)))
    (l : List (List UInt8)) (hq : ∀ x ∈ l, q x) (hl : l.length ≤ maxLen) :
    SpecE Try.prog 90 [] [.list 1 (l.map AV.str), .clo f 0 []] [] (.int .i64 (idxP p l)) := by
  refine specF0 (C := addT nilT f (tbP0_S p q)) (wr := false) (D := fun _ => []) (U := fun _ => none) (res := [.int .i64 (idxP p l)]) Try.Ty.mixed (addT_ok nilT_ok (by simp) (tbP0_S_ok hs)) Try.func90 (nA := 2) (by decide +kernel) rfl (fun _ => rfl) ?_
  simp only [Try.f90, bodyOf, rlOf]
  rw [W_V]
  have hm : l.length ≤ 9223372036854775807 := hl
  simp only [tbP0_S, hy, go_sem, go_sem, reduceIte, Nat.reduceEqDiff, Nat.reduceAdd, Nat.reduceMul, Nat.reduceDiv, Nat.reduceMod, Nat.reduceSub, Nat.reduceBEq, Nat.reduceLT, Nat.reduceLeDiff, reduceCtorEq, Int.reduceNeg, Int.reduceEq, String.reduceEq, Int.reduceLT, Int.reduceLE, Int.reduceToNat, Int.reduceAdd, Int.reduceMul, Int.reduceSub, true_and]
  refine VL_inv (X := Nat) (fun k => ⟨[(0, .list 1 (l.map AV.str)), (1, .clo f 0 []), (7, .int .i64 l.length), (8, .int .i64 k)], []⟩) (fun k => k ≤ l.length ∧ (l.take k).any p = false) (fun k => l.length - k) 0 ?_ ?_ ?_
  · simp only [tbP0_S, hy, go_sem, go_sem, reduceIte, Nat.reduceEqDiff, Nat.reduceAdd, Nat.reduceMul, Nat.reduceDiv, Nat.reduceMod, Nat.reduceSub, Nat.reduceBEq, Nat.reduceLT, Nat.reduceLeDiff, reduceCtorEq, Int.reduceNeg, Int.reduceEq, String.reduceEq, Int.reduceLT, Int.reduceLE, Int.reduceToNat, Int.reduceAdd, Int.reduceMul, Int.reduceSub]
    try rfl
  · exact ⟨Nat.zero_le _, by simp⟩
  rintro k ⟨hk, hn⟩
  simp only [tbP0_S, hy, go_sem, go_sem, reduceIte, Nat.reduceEqDiff, Nat.reduceAdd, Nat.reduceMul, Nat.reduceDiv, Nat.reduceMod, Nat.reduceSub, Nat.reduceBEq, Nat.reduceLT, Nat.reduceLeDiff, reduceCtorEq, Int.reduceNeg, Int.reduceEq, String.reduceEq, Int.reduceLT, Int.reduceLE, Int.reduceToNat, Int.reduceAdd, Int.reduceMul, Int.reduceSub, true_and, toStr]
  refine ⟨fun hlt => ⟨by omega, hq _ (List.mem_of_getElem? (getD_of_lt (s := l) (i := k) (d := []) (by omega))), fun hp => (idxP_hit [] (by omega) hn hp).symm, fun hp => ⟨by omega, k + 1, by omega, ⟨by omega, by rw [any_take_succ [] (by omega) hn]; exact hp⟩, by omega⟩⟩, fun hge => ?_⟩
  have : k = l.length := by omega
  subst this
  rw [List.take_length] at hn
  exact (idxP_none hn).symm
def tbI0_S (f : FuncId) (p : List UInt8 → Bool) (l : List (List UInt8)) : List Blk → List AV → Option (List Blk × AV × Prop)
  | [], [.list n l', .clo f' 0 []] => some ([], .int .i64 (idxP p l), n = 1 ∧ l' = l.map AV.str ∧ f' = f)
  | _, _ => none
theorem has0_S {f : FuncId} (hy : ¬ f = 1000000) {p : List UInt8 → Bool} {q : List UInt8 → Prop} (hs : ∀ x, q x → SpecE Try.prog f [] [AV.str x] [] (.bool (p x)))
    (l : List (List UInt8)) (hq : ∀ x ∈ l, q x) (hl : l.length ≤ maxLen) :
    SpecE Try.prog 62 [] [.list 1 (l.map AV.str), .clo f 0 []] [] (.bool (l.any p)) := by
  have ht : ∀ E args E' res q', tbI0_S f p l E args = some (E', res, q') → q' → SpecE Try.prog 90 E args E' res := by
    intro E args E' res q' h hq'
    unfold tbI0_S at h
    split at h
    · simp only [Option.some.injEq, Prod.mk.injEq] at h
      obtain ⟨rfl, rfl, rfl⟩ := h
      obtain ⟨rfl, rfl, rfl⟩ := hq'
      exact idx0_S hy hs l hq hl
    · cases h
  refine specF0 (C := addT nilT 90 (tbI0_S f p l)) (wr := false) (D := fun _ => []) (U := fun _ => none) (res := [.bool (l.any p)]) Try.Ty.mixed (addT_ok nilT_ok (by decide +kernel) ht) Try.func62 (nA := 2) (by decide +kernel) rfl (fun _ => rfl) ?_
  simp only [Try.f62, bodyOf, rlOf]
  rw [W_V]
  simp only [tbI0_S, go_sem, go_sem, reduceIte, Nat.reduceEqDiff, Nat.reduceAdd, Nat.reduceMul, Nat.reduceDiv, Nat.reduceMod, Nat.reduceSub, Nat.reduceBEq, Nat.reduceLT, Nat.reduceLeDiff, reduceCtorEq, Int.reduceNeg, Int.reduceEq, String.reduceEq, Int.reduceLT, Int.reduceLE, Int.reduceToNat, Int.reduceAdd, Int.reduceMul, Int.reduceSub, true_and]
  rw [Bool.eq_iff_iff, decide_eq_true_eq, idxP_ge]
def tbI_S (sz : Nat) (z : AV) (v : List AV) (f : FuncId) (p : List UInt8 → Bool) (l : List (List UInt8)) : List Blk → List AV → Option (List Blk × AV × Prop)
  | [.cells sz' false z' v'], [.list n l', .clo f' 0 [.ptr 0 0 0 1]] => some ([.cells sz' false z' v'], .int .i64 (idxP p l), sz' = sz ∧ z' = z ∧ v' = v ∧ n = 1 ∧ l' = l.map AV.str ∧ f' = f)
  | _, _ => none
theorem has_S {f : FuncId} (hy : ¬ f = 1000000) {sz : Nat} {z : AV} {v : List AV} (hv : BoxOK v) (hz : ∀ σ, ren σ z = z) {p : List UInt8 → Bool} {q : List UInt8 → Prop} (hs : ∀ x, q x → SpecE Try.prog f [.cells sz false z v] [AV.str x, .ptr 0 0 0 1] [.cells sz false z v] (.bool (p x)))
    (l : List (List UInt8)) (hq : ∀ x ∈ l, q x) (hl : l.length ≤ maxLen) :
    SpecE Try.prog 62 [.cells sz false z v] [.list 1 (l.map AV.str), .clo f 0 [.ptr 0 0 0 1]] [.cells sz false z v] (.bool (l.any p)) := by
  have ht : ∀ E args E' res q', tbI_S sz z v f p l E args = some (E', res, q') → q' → SpecE Try.prog 90 E args E' res := by
    intro E args E' res q' h hq'
    unfold tbI_S at h
    split at h
    · simp only [Option.some.injEq, Prod.mk.injEq] at h
      obtain ⟨rfl, rfl, rfl⟩ := h
      obtain ⟨rfl, rfl, rfl, rfl, rfl, rfl⟩ := hq'
      exact idx_S hy hv hz hs l hq hl
    · cases h
  refine specFE (C := addT nilT 90 (tbI_S sz z v f p l)) (wr := false) (D := fun _ => []) (U := fun _ => none) (E := [.cells sz false z v]) (E' := [.cells sz false z v]) (res := [.bool (l.any p)]) [] Try.Ty.mixed (addT_ok nilT_ok (by decide +kernel) ht) Try.func62 (nE := 1) (nA := 2) (by decide +kernel) rfl rfl ?_
  simp only [Try.f62, bodyOf, rlOf]
  rw [W_V]
  obtain ⟨v1, v2, v3, v4⟩ := hv
  have v5 : ∀ L, contOK L v = True := fun L => contOK_pure v4
  simp only [tbI_S, hz, v1, v2, v3, v5, go_sem, go_sem, reduceIte, Nat.reduceEqDiff, Nat.reduceAdd, Nat.reduceMul, Nat.reduceDiv, Nat.reduceMod, Nat.reduceSub, Nat.reduceBEq, Nat.reduceLT, Nat.reduceLeDiff, reduceCtorEq, Int.reduceNeg, Int.reduceEq, String.reduceEq, Int.reduceLT, Int.reduceLE, Int.reduceToNat, Int.reduceAdd, Int.reduceMul, Int.reduceSub, true_and]
  rw [Bool.eq_iff_iff, decide_eq_true_eq, idxP_ge]






end Go.Proofs.Try.Slc
