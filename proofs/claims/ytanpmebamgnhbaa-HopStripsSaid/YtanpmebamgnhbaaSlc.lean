/- slices: the walks of the functions over predicates. No condition beyond those that a machine's numbers bring. -/
import Derived.Test.YtanpmebamgnhbaaSlcM
import Derived.Test.YtanpmebamgnhbaaTyp
import Derived.Test.YtanpmebamgnhbaaProg
set_option linter.unusedVariables false
set_option linter.unusedSimpArgs false
namespace Go.Proofs.Try.Slc
open Go Go.Abs Go.Proofs Go.Mdl


def tbP_S (sz : Nat) (z : AV) (v : List AV) (p : List UInt8 → Bool) (q : List UInt8 → Prop) : List Blk → List AV → Option (List Blk × AV × Prop)
  | [.cells sz' false z' v'], [a, .ptr 0 0 0 1] => some ([.cells sz' false z' v'], .bool (p (toStr a)), sz' = sz ∧ z' = z ∧ v' = v ∧ a = AV.str (toStr a) ∧ q (toStr a))
  | _, _ => none
theorem tbP_S_ok {f : FuncId} {sz : Nat} {z : AV} {v : List AV} {p : List UInt8 → Bool} {q : List UInt8 → Prop} (hs : ∀ x, q x → SpecE Try.prog f [.cells sz false z v] [AV.str x, .ptr 0 0 0 1] [.cells sz false z v] (.bool (p x))) :
    ∀ E args E' res q', tbP_S sz z v p q E args = some (E', res, q') → q' → SpecE Try.prog f E args E' res := by
  intro E args E' res q' h hq
  unfold tbP_S at h
  split at h
  · rename_i sz' z' v' a
    simp only [Option.some.injEq, Prod.mk.injEq] at h
    obtain ⟨rfl, rfl, rfl⟩ := h
    obtain ⟨rfl, rfl, rfl, h1, h2⟩ := hq
    have := hs _ h2
    rw [← h1] at this; exact this
  · cases h
theorem idx_S {f : FuncId} (hy : ¬ f = 1000000) {sz : Nat} {z : AV} {v : List AV} (hv : BoxOK v) (hz : ∀ σ, ren σ z = z) {p : List UInt8 → Bool} {q : List UInt8 → Prop} (hs : ∀ x, q x → SpecE Try.prog f [.cells sz false z v] [AV.str x, .ptr 0 0 0 1] [.cells sz false z v] (.bool (p x)))
    (l : List (List UInt8)) (hq : ∀ x ∈ l, q x) (hl : l.length ≤ maxLen) :
    SpecE Try.prog 237 [.cells sz false z v] [.list 1 (l.map AV.str), .clo f 0 [.ptr 0 0 0 1]] [.cells sz false z v] (.int .i64 (idxP p l)) := by
  refine specFE (C := addT nilT f (tbP_S sz z v p q)) (wr := false) (D := fun _ => []) (U := fun _ => none) (E := [.cells sz false z v]) (E' := [.cells sz false z v]) (res := [.int .i64 (idxP p l)]) [] Try.Ty.mixed (addT_ok nilT_ok (by simp) (tbP_S_ok hs)) Try.func237 (nE := 1) (nA := 2) (by decide +kernel) rfl rfl ?_
  simp only [Try.f237, bodyOf, rlOf]
  rw [W_V]
  have hm : l.length ≤ 9223372036854775807 := hl
  obtain ⟨v1, v2, v3, v4⟩ := hv
  have v5 : ∀ L, contOK L v = True := fun L => contOK_pure v4
  simp only [tbP_S, hy, hz, v1, v2, v3, v5, go_sem, go_sem, reduceIte, Nat.reduceEqDiff, Nat.reduceAdd, Nat.reduceMul, Nat.reduceSub, Nat.reduceBEq, Nat.reduceLT, Nat.reduceLeDiff, reduceCtorEq, Int.reduceNeg, Int.reduceEq, String.reduceEq, Int.reduceLT, Int.reduceLE, Int.reduceToNat, Int.reduceAdd, Int.reduceMul, Int.reduceSub, true_and]
  refine VL_inv (X := Nat) (fun k => ⟨[(0, .list 1 (l.map AV.str)), (1, .clo f 0 [.ptr 0 0 0 1]), (7, .int .i64 l.length), (8, .int .i64 k)], [(0, .cells sz false z v)]⟩) (fun k => k ≤ l.length ∧ (l.take k).any p = false) (fun k => l.length - k) 0 ?_ ?_ ?_
  · simp only [tbP_S, hy, hz, v1, v2, v3, v5, go_sem, go_sem, reduceIte, Nat.reduceEqDiff, Nat.reduceAdd, Nat.reduceMul, Nat.reduceSub, Nat.reduceBEq, Nat.reduceLT, Nat.reduceLeDiff, reduceCtorEq, Int.reduceNeg, Int.reduceEq, String.reduceEq, Int.reduceLT, Int.reduceLE, Int.reduceToNat, Int.reduceAdd, Int.reduceMul, Int.reduceSub]
    try rfl
  · exact ⟨Nat.zero_le _, by simp⟩
  rintro k ⟨hk, hn⟩
  simp only [tbP_S, hy, hz, v1, v2, v3, v5, go_sem, go_sem, reduceIte, Nat.reduceEqDiff, Nat.reduceAdd, Nat.reduceMul, Nat.reduceSub, Nat.reduceBEq, Nat.reduceLT, Nat.reduceLeDiff, reduceCtorEq, Int.reduceNeg, Int.reduceEq, String.reduceEq, Int.reduceLT, Int.reduceLE, Int.reduceToNat, Int.reduceAdd, Int.reduceMul, Int.reduceSub, true_and, toStr]
  refine ⟨fun hlt => ⟨by omega, hq _ (List.mem_of_getElem? (getD_of_lt (s := l) (i := k) (d := []) (by omega))), fun hp => (idxP_hit [] (by omega) hn hp).symm, fun hp => ⟨by omega, k + 1, by omega, ⟨by omega, by rw [any_take_succ [] (by omega) hn]; exact hp⟩, by omega⟩⟩, fun hge => ?_⟩
  have : k = l.length := by omega
  subst this
  rw [List.take_length] at hn
  exact (idxP_none hn).symm
theorem idxO_S {f : FuncId} (hy : ¬ f = 1000000) {sz : Nat} {z : AV} {v : List AV} (hv : BoxOK v) (hz : ∀ σ, ren σ z = z) {p : List UInt8 → Bool} {q : List UInt8 → Prop} (hs : ∀ x, q x → SpecE Try.prog f [.cells sz false z v] [AV.str x, .ptr 0 0 0 1] [.cells sz false z v] (.bool (p x)))
    (l : List (List UInt8)) (hq : ∀ x ∈ l, q x) (hl : l.length ≤ maxLen) (m1 m2 : Nat) (hm1 : m1 = l.length) (hm2 : m2 = l.length) :
    SpecE Try.prog 237 [.cells 1 false (AV.str []) (l.map AV.str), .cells sz false z v] [.ref 0 0 m1 m2, .clo f 0 [.ptr 1 0 0 1]] [.cells 1 false (AV.str []) (l.map AV.str), .cells sz false z v] (.int .i64 (idxP p l)) := by
  subst hm1
  subst hm2
  refine specFE (C := addT nilT f (tbP_S sz z v p q)) (wr := false) (D := fun _ => []) (U := fun _ => none) (E := [.cells 1 false (AV.str []) (l.map AV.str), .cells sz false z v]) (E' := [.cells 1 false (AV.str []) (l.map AV.str), .cells sz false z v]) (res := [.int .i64 (idxP p l)]) [] Try.Ty.mixed (addT_ok nilT_ok (by simp) (tbP_S_ok hs)) Try.func237 (nE := 2) (nA := 2) (by decide +kernel) rfl rfl ?_
  simp only [Try.f237, bodyOf, rlOf]
  rw [W_V]
  have hm : l.length ≤ 9223372036854775807 := hl
  obtain ⟨v1, v2, v3, v4⟩ := hv
  have v5 : ∀ L, contOK L v = True := fun L => contOK_pure v4
  simp only [tbP_S, hy, hz, v1, v2, v3, v5, go_sem, go_sem, reduceIte, Nat.reduceEqDiff, Nat.reduceAdd, Nat.reduceMul, Nat.reduceSub, Nat.reduceBEq, Nat.reduceLT, Nat.reduceLeDiff, reduceCtorEq, Int.reduceNeg, Int.reduceEq, String.reduceEq, Int.reduceLT, Int.reduceLE, Int.reduceToNat, Int.reduceAdd, Int.reduceMul, Int.reduceSub, true_and]
  refine VL_inv (X := Nat) (fun k => ⟨[(0, .ref 0 0 l.length l.length), (1, .clo f 0 [.ptr 1 0 0 1]), (7, .int .i64 l.length), (8, .int .i64 k)], [(0, .cells 1 false (AV.str []) (l.map AV.str)), (1, .cells sz false z v)]⟩) (fun k => k ≤ l.length ∧ (l.take k).any p = false) (fun k => l.length - k) 0 ?_ ?_ ?_
  · simp only [tbP_S, hy, hz, v1, v2, v3, v5, go_sem, go_sem, reduceIte, Nat.reduceEqDiff, Nat.reduceAdd, Nat.reduceMul, Nat.reduceSub, Nat.reduceBEq, Nat.reduceLT, Nat.reduceLeDiff, reduceCtorEq, Int.reduceNeg, Int.reduceEq, String.reduceEq, Int.reduceLT, Int.reduceLE, Int.reduceToNat, Int.reduceAdd, Int.reduceMul, Int.reduceSub]
    try rfl
  · exact ⟨Nat.zero_le _, by simp⟩
  rintro k ⟨hk, hn⟩
  simp only [tbP_S, hy, hz, v1, v2, v3, v5, go_sem, go_sem, reduceIte, Nat.reduceEqDiff, Nat.reduceAdd, Nat.reduceMul, Nat.reduceSub, Nat.reduceBEq, Nat.reduceLT, Nat.reduceLeDiff, reduceCtorEq, Int.reduceNeg, Int.reduceEq, String.reduceEq, Int.reduceLT, Int.reduceLE, Int.reduceToNat, Int.reduceAdd, Int.reduceMul, Int.reduceSub, true_and, toStr]
  refine ⟨fun hlt => ⟨by omega, by omega, ?_, fun hp => ?_, fun hp => ⟨by omega, k + 1, by omega, ⟨by omega, ?_⟩, by omega⟩⟩, fun hge => ?_⟩
  · rw [Nat.zero_add]; exact hq _ (List.mem_of_getElem? (getD_of_lt (s := l) (i := k) (d := []) (by omega)))
  · rw [Nat.zero_add] at hp; exact (idxP_hit [] (by omega) hn hp).symm
  · rw [Nat.zero_add] at hp; rw [any_take_succ [] (by omega) hn]; exact hp
  · have : k = l.length := by omega
    subst this
    rw [List.take_length] at hn
    exact (idxP_none hn).symm

def tbP0_S (p : List UInt8 → Bool) (q : List UInt8 → Prop) : List Blk → List AV → Option (List Blk × AV × Prop)
  | [], [a] => some ([], .bool (p (toStr a)), a = AV.str (toStr a) ∧ q (toStr a))
  | _, _ => none
theorem tbP0_S_ok {f : FuncId} {p : List UInt8 → Bool} {q : List UInt8 → Prop} (hs : ∀ x, q x → SpecE Try.prog f [] [AV.str x] [] (.bool (p x))) :
    ∀ E args E' res q', tbP0_S p q E args = some (E', res, q') → q' → SpecE Try.prog f E args E' res := by
  intro E args E' res q' h hq
  unfold tbP0_S at h
  split at h
  · rename_i a
    simp only [Option.some.injEq, Prod.mk.injEq] at h
    obtain ⟨rfl, rfl, rfl⟩ := h
    have := hs _ hq.2
    rw [← hq.1] at this; exact this
  · cases h
theorem idx0_S {f : FuncId} (hy : ¬ f = 1000000) {p : List UInt8 → Bool} {q : List UInt8 → Prop} (hs : ∀ x, q x → SpecE Try.prog f [] [AV.str x] [] (.bool (p x)))
    (l : List (List UInt8)) (hq : ∀ x ∈ l, q x) (hl : l.length ≤ maxLen) :
    SpecE Try.prog 237 [] [.list 1 (l.map AV.str), .clo f 0 []] [] (.int .i64 (idxP p l)) := by
  refine specF0 (C := addT nilT f (tbP0_S p q)) (wr := false) (D := fun _ => []) (U := fun _ => none) (res := [.int .i64 (idxP p l)]) Try.Ty.mixed (addT_ok nilT_ok (by simp) (tbP0_S_ok hs)) Try.func237 (nA := 2) (by decide +kernel) rfl (fun _ => rfl) ?_
  simp only [Try.f237, bodyOf, rlOf]
  rw [W_V]
  have hm : l.length ≤ 9223372036854775807 := hl
  simp only [tbP0_S, hy, go_sem, go_sem, reduceIte, Nat.reduceEqDiff, Nat.reduceAdd, Nat.reduceMul, Nat.reduceSub, Nat.reduceBEq, Nat.reduceLT, Nat.reduceLeDiff, reduceCtorEq, Int.reduceNeg, Int.reduceEq, String.reduceEq, Int.reduceLT, Int.reduceLE, Int.reduceToNat, Int.reduceAdd, Int.reduceMul, Int.reduceSub, true_and]
  refine VL_inv (X := Nat) (fun k => ⟨[(0, .list 1 (l.map AV.str)), (1, .clo f 0 []), (7, .int .i64 l.length), (8, .int .i64 k)], []⟩) (fun k => k ≤ l.length ∧ (l.take k).any p = false) (fun k => l.length - k) 0 ?_ ?_ ?_
  · simp only [tbP0_S, hy, go_sem, go_sem, reduceIte, Nat.reduceEqDiff, Nat.reduceAdd, Nat.reduceMul, Nat.reduceSub, Nat.reduceBEq, Nat.reduceLT, Nat.reduceLeDiff, reduceCtorEq, Int.reduceNeg, Int.reduceEq, String.reduceEq, Int.reduceLT, Int.reduceLE, Int.reduceToNat, Int.reduceAdd, Int.reduceMul, Int.reduceSub]
    try rfl
  · exact ⟨Nat.zero_le _, by simp⟩
  rintro k ⟨hk, hn⟩
  simp only [tbP0_S, hy, go_sem, go_sem, reduceIte, Nat.reduceEqDiff, Nat.reduceAdd, Nat.reduceMul, Nat.reduceSub, Nat.reduceBEq, Nat.reduceLT, Nat.reduceLeDiff, reduceCtorEq, Int.reduceNeg, Int.reduceEq, String.reduceEq, Int.reduceLT, Int.reduceLE, Int.reduceToNat, Int.reduceAdd, Int.reduceMul, Int.reduceSub, true_and, toStr]
  refine ⟨fun hlt => ⟨by omega, hq _ (List.mem_of_getElem? (getD_of_lt (s := l) (i := k) (d := []) (by omega))), fun hp => (idxP_hit [] (by omega) hn hp).symm, fun hp => ⟨by omega, k + 1, by omega, ⟨by omega, by rw [any_take_succ [] (by omega) hn]; exact hp⟩, by omega⟩⟩, fun hge => ?_⟩
  have : k = l.length := by omega
  subst this
  rw [List.take_length] at hn
  exact (idxP_none hn).symm
def tbI0_S (f : FuncId) (p : List UInt8 → Bool) (l : List (List UInt8)) : List Blk → List AV → Option (List Blk × AV × Prop)
  | [], [.list n l', .clo f' 0 []] => some ([], .int .i64 (idxP p l), n = 1 ∧ l' = l.map AV.str ∧ f' = f)
  | _, _ => none
theorem has0_S {f : FuncId} (hy : ¬ f = 1000000) {p : List UInt8 → Bool} {q : List UInt8 → Prop} (hs : ∀ x, q x → SpecE Try.prog f [] [AV.str x] [] (.bool (p x)))
    (l : List (List UInt8)) (hq : ∀ x ∈ l, q x) (hl : l.length ≤ maxLen) :
    SpecE Try.prog 145 [] [.list 1 (l.map AV.str), .clo f 0 []] [] (.bool (l.any p)) := by
  have ht : ∀ E args E' res q', tbI0_S f p l E args = some (E', res, q') → q' → SpecE Try.prog 237 E args E' res := by
    intro E args E' res q' h hq'
    unfold tbI0_S at h
    split at h
    · simp only [Option.some.injEq, Prod.mk.injEq] at h
      obtain ⟨rfl, rfl, rfl⟩ := h
      obtain ⟨rfl, rfl, rfl⟩ := hq'
      exact idx0_S hy hs l hq hl
    · cases h
  refine specF0 (C := addT nilT 237 (tbI0_S f p l)) (wr := false) (D := fun _ => []) (U := fun _ => none) (res := [.bool (l.any p)]) Try.Ty.mixed (addT_ok nilT_ok (by decide +kernel) ht) Try.func145 (nA := 2) (by decide +kernel) rfl (fun _ => rfl) ?_
  simp only [Try.f145, bodyOf, rlOf]
  rw [W_V]
  simp only [tbI0_S, go_sem, go_sem, reduceIte, Nat.reduceEqDiff, Nat.reduceAdd, Nat.reduceMul, Nat.reduceSub, Nat.reduceBEq, Nat.reduceLT, Nat.reduceLeDiff, reduceCtorEq, Int.reduceNeg, Int.reduceEq, String.reduceEq, Int.reduceLT, Int.reduceLE, Int.reduceToNat, Int.reduceAdd, Int.reduceMul, Int.reduceSub, true_and]
  rw [Bool.eq_iff_iff, decide_eq_true_eq, idxP_ge]
def tbI_S (sz : Nat) (z : AV) (v : List AV) (f : FuncId) (p : List UInt8 → Bool) (l : List (List UInt8)) : List Blk → List AV → Option (List Blk × AV × Prop)
  | [.cells sz' false z' v'], [.list n l', .clo f' 0 [.ptr 0 0 0 1]] => some ([.cells sz' false z' v'], .int .i64 (idxP p l), sz' = sz ∧ z' = z ∧ v' = v ∧ n = 1 ∧ l' = l.map AV.str ∧ f' = f)
  | _, _ => none
theorem has_S {f : FuncId} (hy : ¬ f = 1000000) {sz : Nat} {z : AV} {v : List AV} (hv : BoxOK v) (hz : ∀ σ, ren σ z = z) {p : List UInt8 → Bool} {q : List UInt8 → Prop} (hs : ∀ x, q x → SpecE Try.prog f [.cells sz false z v] [AV.str x, .ptr 0 0 0 1] [.cells sz false z v] (.bool (p x)))
    (l : List (List UInt8)) (hq : ∀ x ∈ l, q x) (hl : l.length ≤ maxLen) :
    SpecE Try.prog 145 [.cells sz false z v] [.list 1 (l.map AV.str), .clo f 0 [.ptr 0 0 0 1]] [.cells sz false z v] (.bool (l.any p)) := by
  have ht : ∀ E args E' res q', tbI_S sz z v f p l E args = some (E', res, q') → q' → SpecE Try.prog 237 E args E' res := by
    intro E args E' res q' h hq'
    unfold tbI_S at h
    split at h
    · simp only [Option.some.injEq, Prod.mk.injEq] at h
      obtain ⟨rfl, rfl, rfl⟩ := h
      obtain ⟨rfl, rfl, rfl, rfl, rfl, rfl⟩ := hq'
      exact idx_S hy hv hz hs l hq hl
    · cases h
  refine specFE (C := addT nilT 237 (tbI_S sz z v f p l)) (wr := false) (D := fun _ => []) (U := fun _ => none) (E := [.cells sz false z v]) (E' := [.cells sz false z v]) (res := [.bool (l.any p)]) [] Try.Ty.mixed (addT_ok nilT_ok (by decide +kernel) ht) Try.func145 (nE := 1) (nA := 2) (by decide +kernel) rfl rfl ?_
  simp only [Try.f145, bodyOf, rlOf]
  rw [W_V]
  obtain ⟨v1, v2, v3, v4⟩ := hv
  have v5 : ∀ L, contOK L v = True := fun L => contOK_pure v4
  simp only [tbI_S, hz, v1, v2, v3, v5, go_sem, go_sem, reduceIte, Nat.reduceEqDiff, Nat.reduceAdd, Nat.reduceMul, Nat.reduceSub, Nat.reduceBEq, Nat.reduceLT, Nat.reduceLeDiff, reduceCtorEq, Int.reduceNeg, Int.reduceEq, String.reduceEq, Int.reduceLT, Int.reduceLE, Int.reduceToNat, Int.reduceAdd, Int.reduceMul, Int.reduceSub, true_and]
  rw [Bool.eq_iff_iff, decide_eq_true_eq, idxP_ge]

def tbJ_S (sz : Nat) (z : AV) (v : List AV) (f : FuncId) (p : List UInt8 → Bool) (l : List (List UInt8)) : List Blk → List AV → Option (List Blk × AV × Prop)
  | [.cells n false zl l', .cells sz' false z' v'], [.ref 0 0 m1 m2, .clo f' 0 [.ptr 1 0 0 1]] => some ([.cells n false zl l', .cells sz' false z' v'], .int .i64 (idxP p l), n = 1 ∧ zl = (AV.str []) ∧ l' = l.map AV.str ∧ sz' = sz ∧ z' = z ∧ v' = v ∧ m1 = l.length ∧ m2 = l.length ∧ f' = f)
  | _, _ => none
theorem del_S {f : FuncId} (hy : ¬ f = 1000000) {sz : Nat} {z : AV} {v : List AV} (hv : BoxOK v) (hz : ∀ σ, ren σ z = z) {p : List UInt8 → Bool} {q : List UInt8 → Prop} (hs : ∀ x, q x → SpecE Try.prog f [.cells sz false z v] [AV.str x, .ptr 0 0 0 1] [.cells sz false z v] (.bool (p x)))
    (l : List (List UInt8)) (hq : ∀ x ∈ l, q x) (hl : l.length ≤ 1000000) :
    SpecE Try.prog 180 [.cells 1 false (AV.str []) (l.map AV.str), .cells sz false z v] [.ref 0 0 l.length l.length, .clo f 0 [.ptr 1 0 0 1]] [.cells 1 false (AV.str []) ((delP [] p l).map AV.str), .cells sz false z v] (.ref 0 0 (l.filter fun x => !p x).length l.length) := by
  have hm : (1000000 : Nat) ≤ maxLen := by decide
  have ht : ∀ E args E' res q', tbJ_S sz z v f p l E args = some (E', res, q') → q' → SpecE Try.prog 237 E args E' res := by
    intro E args E' res q' h hq'
    unfold tbJ_S at h
    split at h
    · simp only [Option.some.injEq, Prod.mk.injEq] at h
      obtain ⟨rfl, rfl, rfl⟩ := h
      obtain ⟨rfl, rfl, rfl, rfl, rfl, rfl, h1, h2, rfl⟩ := hq'
      exact idxO_S hy hv hz hs l hq (by omega) _ _ h1 h2
    · cases h
  refine specFE (C := addT (addT nilT f (tbP_S sz z v p q)) 237 (tbJ_S sz z v f p l)) (wr := false) (D := fun _ => []) (U := fun _ => none) (E := [.cells 1 false (AV.str []) (l.map AV.str), .cells sz false z v]) (E' := [.cells 1 false (AV.str []) ((delP [] p l).map AV.str), .cells sz false z v]) (res := [.ref 0 0 (l.filter fun x => !p x).length l.length]) [] Try.Ty.mixed (addT_ok (addT_ok nilT_ok (by simp) (tbP_S_ok hs)) (by decide +kernel) ht) Try.func180 (nE := 2) (nA := 2) (by decide +kernel) rfl rfl ?_
  simp only [Try.f180, bodyOf, rlOf]
  rw [W_V]
  obtain ⟨v1, v2, v3, v4⟩ := hv
  have v5 : ∀ L, contOK L v = True := fun L => contOK_pure v4
  simp only [tbJ_S, tbP_S, hy, hz, v1, v2, v3, v5, go_sem, go_sem, reduceIte, Nat.reduceEqDiff, Nat.reduceAdd, Nat.reduceMul, Nat.reduceSub, Nat.reduceBEq, Nat.reduceLT, Nat.reduceLeDiff, reduceCtorEq, Int.reduceNeg, Int.reduceEq, String.reduceEq, Int.reduceLT, Int.reduceLE, Int.reduceToNat, Int.reduceAdd, Int.reduceMul, Int.reduceSub, true_and, toStr]
  refine ⟨fun hno => ?_, fun hne => ?_⟩
  · have hf := filter_none (idxP_none' hno)
    have hd : delP [] p l = l := by simp [delP, hf]
    rw [hd, hf]; exact ⟨rfl, rfl, rfl⟩
  obtain ⟨x, hx, hxl, hxn, hxp⟩ := idxP_some [] hne
  rw [hx]
  refine ⟨by omega, ?_⟩
  refine VL_inv (X := Nat × Nat × List (List UInt8)) (fun y => ⟨[(0, .ref 0 0 l.length l.length), (1, .clo f 0 [.ptr 1 0 0 1]), (5, .int .i64 y.1), (6, .int .i64 y.2.1)], [(0, .cells 1 false (AV.str []) (y.2.2.map AV.str)), (1, .cells sz false z v)]⟩)
    (fun y => y.2.2.length = l.length ∧ y.1 < y.2.1 ∧ y.2.1 ≤ l.length ∧ y.2.2.take y.1 = (l.take y.2.1).filter (fun x => !p x) ∧ y.2.2.drop y.2.1 = l.drop y.2.1) (fun y => l.length - y.2.1) (x, x + 1, l) ?_ ?_ ?_
  · simp only [tbJ_S, tbP_S, hy, hz, v1, v2, v3, v5, go_sem, go_sem, reduceIte, Nat.reduceEqDiff, Nat.reduceAdd, Nat.reduceMul, Nat.reduceSub, Nat.reduceBEq, Nat.reduceLT, Nat.reduceLeDiff, reduceCtorEq, Int.reduceNeg, Int.reduceEq, String.reduceEq, Int.reduceLT, Int.reduceLE, Int.reduceToNat, Int.reduceAdd, Int.reduceMul, Int.reduceSub]
    try rfl
    try omega
  · refine ⟨rfl, Nat.lt_succ_self x, hxl, ?_, rfl⟩
    simp only
    rw [take_succ_getD [] hxl, List.filter_append, filter_none hxn, List.filter_cons_of_neg (by rw [hxp]; simp), List.filter_nil, List.append_nil]
  rintro ⟨i, j, c⟩ ⟨i1, i2, i3, i4, i5⟩
  simp only at i1 i2 i3 i4 i5
  simp only [tbJ_S, tbP_S, hy, hz, v1, v2, v3, v5, i1, go_sem, go_sem, reduceIte, Nat.reduceEqDiff, Nat.reduceAdd, Nat.reduceMul, Nat.reduceSub, Nat.reduceBEq, Nat.reduceLT, Nat.reduceLeDiff, reduceCtorEq, Int.reduceNeg, Int.reduceEq, String.reduceEq, Int.reduceLT, Int.reduceLE, Int.reduceToNat, Int.reduceAdd, Int.reduceMul, Int.reduceSub, true_and, toStr]
  have hw := drop_eq_getD [] i5
  have hs' := drop_eq_succ i5
  have hmem : j < l.length → l.getD j [] ∈ l := fun h => List.mem_of_getElem? (getD_of_lt (s := l) (d := []) h)
  have htk : j < l.length → (l.take (j + 1)).filter (fun x => !p x) = c.take i ++ if p (l.getD j []) = true then [] else [l.getD j []] := fun h => by
    rw [take_succ_getD [] h, List.filter_append, i4]
    by_cases hh : p (l.getD j []) = true
    · rw [if_pos hh, List.filter_cons_of_neg (by rw [hh]; simp), List.filter_nil]
    · rw [if_neg hh, List.filter_cons_of_pos (by simpa using hh), List.filter_nil]
  have hset : ∀ w : List UInt8, (c.map AV.str).set (0 + i) (AV.str w) = (c.set i w).map AV.str := fun w => by rw [Nat.zero_add, List.map_set]
  have hj0 : 0 + j = j := Nat.zero_add j
  rw [hj0, hw]
  refine ⟨fun hlt => ⟨by omega, by omega, hq _ (hmem (by omega)), fun hp => ⟨by omega, by omega, by omega, by omega, (i + 1, j + 1, c.set i (l.getD j [])), ⟨⟨by simp only; omega, by simp only; omega⟩, hset _, congrArg (fun z => some (Blk.cells 1 false (AV.str []) z)) (hset _).symm⟩,
      ⟨by simp only [List.length_set]; exact i1, by simp only; omega, by simp only; omega, ?_, ?_⟩, by simp only; omega⟩, fun hp => ⟨by omega, (i, j + 1, c), ⟨⟨rfl, by simp only; omega⟩, rfl, rfl⟩, ⟨i1, by simp only; omega, by simp only; omega, ?_, hs'⟩, by simp only; omega⟩⟩, fun hge => ?_⟩
  · simp only
    rw [set_take (by omega), htk (by omega), if_neg (fun h => by have h2 := hp; rw [show p (l.getD j []) = true from h] at h2; cases h2)]
  · simp only
    rw [set_drop (by omega), hs']
  · simp only
    rw [htk (by omega), if_pos hp, List.append_nil]
  · have e : j = l.length := by omega
    subst e
    rw [List.take_length] at i4
    have hli : (l.filter fun x => !p x).length = i := by rw [← i4, List.length_take]; omega
    have hrep : ∀ k : Nat, List.replicate k (AV.str []) = (List.replicate k ([] : List UInt8)).map AV.str := fun k => (by rw [List.map_replicate] <;> try rfl)
    have hdel : (c.take (0 + i)).map AV.str ++ (List.replicate (l.length - i) (AV.str []) ++ (c.drop (0 + i + (l.length - i))).map AV.str) = (delP [] p l).map AV.str := by
      rw [Nat.zero_add, i4, List.drop_eq_nil_of_le (by omega), delP, hli, List.map_append, ← hrep, List.map_nil, List.append_nil]
    rw [hdel]
    refine ⟨by omega, ⟨by rw [List.length_map, delP_len], by omega, by omega⟩, hli.symm, rfl, rfl⟩


def tbP_F (sz : Nat) (z : AV) (v : List AV) (p : List UInt8 × List UInt8 → Bool) (q : List UInt8 × List UInt8 → Prop) : List Blk → List AV → Option (List Blk × AV × Prop)
  | [.cells sz' false z' v'], [a, .ptr 0 0 0 1] => some ([.cells sz' false z' v'], .bool (p (dec_fld a)), sz' = sz ∧ z' = z ∧ v' = v ∧ a = enc_fld (dec_fld a) ∧ q (dec_fld a))
  | _, _ => none
theorem tbP_F_ok {f : FuncId} {sz : Nat} {z : AV} {v : List AV} {p : List UInt8 × List UInt8 → Bool} {q : List UInt8 × List UInt8 → Prop} (hs : ∀ x, q x → SpecE Try.prog f [.cells sz false z v] [enc_fld x, .ptr 0 0 0 1] [.cells sz false z v] (.bool (p x))) :
    ∀ E args E' res q', tbP_F sz z v p q E args = some (E', res, q') → q' → SpecE Try.prog f E args E' res := by
  intro E args E' res q' h hq
  unfold tbP_F at h
  split at h
  · rename_i sz' z' v' a
    simp only [Option.some.injEq, Prod.mk.injEq] at h
    obtain ⟨rfl, rfl, rfl⟩ := h
    obtain ⟨rfl, rfl, rfl, h1, h2⟩ := hq
    have := hs _ h2
    rw [← h1] at this; exact this
  · cases h
theorem idx_F {f : FuncId} (hy : ¬ f = 1000000) {sz : Nat} {z : AV} {v : List AV} (hv : BoxOK v) (hz : ∀ σ, ren σ z = z) {p : List UInt8 × List UInt8 → Bool} {q : List UInt8 × List UInt8 → Prop} (hs : ∀ x, q x → SpecE Try.prog f [.cells sz false z v] [enc_fld x, .ptr 0 0 0 1] [.cells sz false z v] (.bool (p x)))
    (l : List (List UInt8 × List UInt8)) (hq : ∀ x ∈ l, q x) (hl : l.length ≤ maxLen) :
    SpecE Try.prog 189 [.cells sz false z v] [.list 2 (l.map enc_fld), .clo f 0 [.ptr 0 0 0 1]] [.cells sz false z v] (.int .i64 (idxP p l)) := by
  refine specFE (C := addT nilT f (tbP_F sz z v p q)) (wr := false) (D := fun _ => []) (U := fun _ => none) (E := [.cells sz false z v]) (E' := [.cells sz false z v]) (res := [.int .i64 (idxP p l)]) [] Try.Ty.mixed (addT_ok nilT_ok (by simp) (tbP_F_ok hs)) Try.func189 (nE := 1) (nA := 2) (by decide +kernel) rfl rfl ?_
  simp only [Try.f189, bodyOf, rlOf]
  rw [W_V]
  have hm : l.length ≤ 9223372036854775807 := hl
  obtain ⟨v1, v2, v3, v4⟩ := hv
  have v5 : ∀ L, contOK L v = True := fun L => contOK_pure v4
  simp only [tbP_F, hy, hz, v1, v2, v3, v5, go_sem, go_sem, reduceIte, Nat.reduceEqDiff, Nat.reduceAdd, Nat.reduceMul, Nat.reduceSub, Nat.reduceBEq, Nat.reduceLT, Nat.reduceLeDiff, reduceCtorEq, Int.reduceNeg, Int.reduceEq, String.reduceEq, Int.reduceLT, Int.reduceLE, Int.reduceToNat, Int.reduceAdd, Int.reduceMul, Int.reduceSub, true_and]
  refine VL_inv (X := Nat) (fun k => ⟨[(0, .list 2 (l.map enc_fld)), (1, .clo f 0 [.ptr 0 0 0 1]), (7, .int .i64 l.length), (8, .int .i64 k)], [(0, .cells sz false z v)]⟩) (fun k => k ≤ l.length ∧ (l.take k).any p = false) (fun k => l.length - k) 0 ?_ ?_ ?_
  · simp only [tbP_F, hy, hz, v1, v2, v3, v5, go_sem, go_sem, reduceIte, Nat.reduceEqDiff, Nat.reduceAdd, Nat.reduceMul, Nat.reduceSub, Nat.reduceBEq, Nat.reduceLT, Nat.reduceLeDiff, reduceCtorEq, Int.reduceNeg, Int.reduceEq, String.reduceEq, Int.reduceLT, Int.reduceLE, Int.reduceToNat, Int.reduceAdd, Int.reduceMul, Int.reduceSub]
    try rfl
  · exact ⟨Nat.zero_le _, by simp⟩
  rintro k ⟨hk, hn⟩
  simp only [tbP_F, hy, hz, v1, v2, v3, v5, go_sem, go_sem, reduceIte, Nat.reduceEqDiff, Nat.reduceAdd, Nat.reduceMul, Nat.reduceSub, Nat.reduceBEq, Nat.reduceLT, Nat.reduceLeDiff, reduceCtorEq, Int.reduceNeg, Int.reduceEq, String.reduceEq, Int.reduceLT, Int.reduceLE, Int.reduceToNat, Int.reduceAdd, Int.reduceMul, Int.reduceSub, true_and, enc_fld, dec_fld]
  refine ⟨fun hlt => ⟨by omega, hq _ (List.mem_of_getElem? (getD_of_lt (s := l) (i := k) (d := ([], [])) (by omega))), fun hp => (idxP_hit ([], []) (by omega) hn hp).symm, fun hp => ⟨by omega, k + 1, by omega, ⟨by omega, by rw [any_take_succ ([], []) (by omega) hn]; exact hp⟩, by omega⟩⟩, fun hge => ?_⟩
  have : k = l.length := by omega
  subst this
  rw [List.take_length] at hn
  exact (idxP_none hn).symm
theorem idxO_F {f : FuncId} (hy : ¬ f = 1000000) {sz : Nat} {z : AV} {v : List AV} (hv : BoxOK v) (hz : ∀ σ, ren σ z = z) {p : List UInt8 × List UInt8 → Bool} {q : List UInt8 × List UInt8 → Prop} (hs : ∀ x, q x → SpecE Try.prog f [.cells sz false z v] [enc_fld x, .ptr 0 0 0 1] [.cells sz false z v] (.bool (p x)))
    (l : List (List UInt8 × List UInt8)) (hq : ∀ x ∈ l, q x) (hl : l.length ≤ maxLen) (m1 m2 : Nat) (hm1 : m1 = l.length) (hm2 : m2 = l.length) :
    SpecE Try.prog 189 [.cells 2 false (AV.agg [AV.str [], AV.str []]) (l.map enc_fld), .cells sz false z v] [.ref 0 0 m1 m2, .clo f 0 [.ptr 1 0 0 1]] [.cells 2 false (AV.agg [AV.str [], AV.str []]) (l.map enc_fld), .cells sz false z v] (.int .i64 (idxP p l)) := by
  subst hm1
  subst hm2
  refine specFE (C := addT nilT f (tbP_F sz z v p q)) (wr := false) (D := fun _ => []) (U := fun _ => none) (E := [.cells 2 false (AV.agg [AV.str [], AV.str []]) (l.map enc_fld), .cells sz false z v]) (E' := [.cells 2 false (AV.agg [AV.str [], AV.str []]) (l.map enc_fld), .cells sz false z v]) (res := [.int .i64 (idxP p l)]) [] Try.Ty.mixed (addT_ok nilT_ok (by simp) (tbP_F_ok hs)) Try.func189 (nE := 2) (nA := 2) (by decide +kernel) rfl rfl ?_
  simp only [Try.f189, bodyOf, rlOf]
  rw [W_V]
  have hm : l.length ≤ 9223372036854775807 := hl
  obtain ⟨v1, v2, v3, v4⟩ := hv
  have v5 : ∀ L, contOK L v = True := fun L => contOK_pure v4
  simp only [tbP_F, hy, hz, v1, v2, v3, v5, go_sem, go_sem, reduceIte, Nat.reduceEqDiff, Nat.reduceAdd, Nat.reduceMul, Nat.reduceSub, Nat.reduceBEq, Nat.reduceLT, Nat.reduceLeDiff, reduceCtorEq, Int.reduceNeg, Int.reduceEq, String.reduceEq, Int.reduceLT, Int.reduceLE, Int.reduceToNat, Int.reduceAdd, Int.reduceMul, Int.reduceSub, true_and]
  refine VL_inv (X := Nat) (fun k => ⟨[(0, .ref 0 0 l.length l.length), (1, .clo f 0 [.ptr 1 0 0 1]), (7, .int .i64 l.length), (8, .int .i64 k)], [(0, .cells 2 false (AV.agg [AV.str [], AV.str []]) (l.map enc_fld)), (1, .cells sz false z v)]⟩) (fun k => k ≤ l.length ∧ (l.take k).any p = false) (fun k => l.length - k) 0 ?_ ?_ ?_
  · simp only [tbP_F, hy, hz, v1, v2, v3, v5, go_sem, go_sem, reduceIte, Nat.reduceEqDiff, Nat.reduceAdd, Nat.reduceMul, Nat.reduceSub, Nat.reduceBEq, Nat.reduceLT, Nat.reduceLeDiff, reduceCtorEq, Int.reduceNeg, Int.reduceEq, String.reduceEq, Int.reduceLT, Int.reduceLE, Int.reduceToNat, Int.reduceAdd, Int.reduceMul, Int.reduceSub]
    try rfl
  · exact ⟨Nat.zero_le _, by simp⟩
  rintro k ⟨hk, hn⟩
  simp only [tbP_F, hy, hz, v1, v2, v3, v5, go_sem, go_sem, reduceIte, Nat.reduceEqDiff, Nat.reduceAdd, Nat.reduceMul, Nat.reduceSub, Nat.reduceBEq, Nat.reduceLT, Nat.reduceLeDiff, reduceCtorEq, Int.reduceNeg, Int.reduceEq, String.reduceEq, Int.reduceLT, Int.reduceLE, Int.reduceToNat, Int.reduceAdd, Int.reduceMul, Int.reduceSub, true_and, enc_fld, dec_fld]
  refine ⟨fun hlt => ⟨by omega, by omega, ?_, fun hp => ?_, fun hp => ⟨by omega, k + 1, by omega, ⟨by omega, ?_⟩, by omega⟩⟩, fun hge => ?_⟩
  · rw [Nat.zero_add]; exact hq _ (List.mem_of_getElem? (getD_of_lt (s := l) (i := k) (d := ([], [])) (by omega)))
  · rw [Nat.zero_add] at hp; exact (idxP_hit ([], []) (by omega) hn hp).symm
  · rw [Nat.zero_add] at hp; rw [any_take_succ ([], []) (by omega) hn]; exact hp
  · have : k = l.length := by omega
    subst this
    rw [List.take_length] at hn
    exact (idxP_none hn).symm

def tbP0_F (p : List UInt8 × List UInt8 → Bool) (q : List UInt8 × List UInt8 → Prop) : List Blk → List AV → Option (List Blk × AV × Prop)
  | [], [a] => some ([], .bool (p (dec_fld a)), a = enc_fld (dec_fld a) ∧ q (dec_fld a))
  | _, _ => none
theorem tbP0_F_ok {f : FuncId} {p : List UInt8 × List UInt8 → Bool} {q : List UInt8 × List UInt8 → Prop} (hs : ∀ x, q x → SpecE Try.prog f [] [enc_fld x] [] (.bool (p x))) :
    ∀ E args E' res q', tbP0_F p q E args = some (E', res, q') → q' → SpecE Try.prog f E args E' res := by
  intro E args E' res q' h hq
  unfold tbP0_F at h
  split at h
  · rename_i a
    simp only [Option.some.injEq, Prod.mk.injEq] at h
    obtain ⟨rfl, rfl, rfl⟩ := h
    have := hs _ hq.2
    rw [← hq.1] at this; exact this
  · cases h
theorem idx0_F {f : FuncId} (hy : ¬ f = 1000000) {p : List UInt8 × List UInt8 → Bool} {q : List UInt8 × List UInt8 → Prop} (hs : ∀ x, q x → SpecE Try.prog f [] [enc_fld x] [] (.bool (p x)))
    (l : List (List UInt8 × List UInt8)) (hq : ∀ x ∈ l, q x) (hl : l.length ≤ maxLen) :
    SpecE Try.prog 189 [] [.list 2 (l.map enc_fld), .clo f 0 []] [] (.int .i64 (idxP p l)) := by
  refine specF0 (C := addT nilT f (tbP0_F p q)) (wr := false) (D := fun _ => []) (U := fun _ => none) (res := [.int .i64 (idxP p l)]) Try.Ty.mixed (addT_ok nilT_ok (by simp) (tbP0_F_ok hs)) Try.func189 (nA := 2) (by decide +kernel) rfl (fun _ => rfl) ?_
  simp only [Try.f189, bodyOf, rlOf]
  rw [W_V]
  have hm : l.length ≤ 9223372036854775807 := hl
  simp only [tbP0_F, hy, go_sem, go_sem, reduceIte, Nat.reduceEqDiff, Nat.reduceAdd, Nat.reduceMul, Nat.reduceSub, Nat.reduceBEq, Nat.reduceLT, Nat.reduceLeDiff, reduceCtorEq, Int.reduceNeg, Int.reduceEq, String.reduceEq, Int.reduceLT, Int.reduceLE, Int.reduceToNat, Int.reduceAdd, Int.reduceMul, Int.reduceSub, true_and]
  refine VL_inv (X := Nat) (fun k => ⟨[(0, .list 2 (l.map enc_fld)), (1, .clo f 0 []), (7, .int .i64 l.length), (8, .int .i64 k)], []⟩) (fun k => k ≤ l.length ∧ (l.take k).any p = false) (fun k => l.length - k) 0 ?_ ?_ ?_
  · simp only [tbP0_F, hy, go_sem, go_sem, reduceIte, Nat.reduceEqDiff, Nat.reduceAdd, Nat.reduceMul, Nat.reduceSub, Nat.reduceBEq, Nat.reduceLT, Nat.reduceLeDiff, reduceCtorEq, Int.reduceNeg, Int.reduceEq, String.reduceEq, Int.reduceLT, Int.reduceLE, Int.reduceToNat, Int.reduceAdd, Int.reduceMul, Int.reduceSub]
    try rfl
  · exact ⟨Nat.zero_le _, by simp⟩
  rintro k ⟨hk, hn⟩
  simp only [tbP0_F, hy, go_sem, go_sem, reduceIte, Nat.reduceEqDiff, Nat.reduceAdd, Nat.reduceMul, Nat.reduceSub, Nat.reduceBEq, Nat.reduceLT, Nat.reduceLeDiff, reduceCtorEq, Int.reduceNeg, Int.reduceEq, String.reduceEq, Int.reduceLT, Int.reduceLE, Int.reduceToNat, Int.reduceAdd, Int.reduceMul, Int.reduceSub, true_and, enc_fld, dec_fld]
  refine ⟨fun hlt => ⟨by omega, hq _ (List.mem_of_getElem? (getD_of_lt (s := l) (i := k) (d := ([], [])) (by omega))), fun hp => (idxP_hit ([], []) (by omega) hn hp).symm, fun hp => ⟨by omega, k + 1, by omega, ⟨by omega, by rw [any_take_succ ([], []) (by omega) hn]; exact hp⟩, by omega⟩⟩, fun hge => ?_⟩
  have : k = l.length := by omega
  subst this
  rw [List.take_length] at hn
  exact (idxP_none hn).symm

def tbJ_F (sz : Nat) (z : AV) (v : List AV) (f : FuncId) (p : List UInt8 × List UInt8 → Bool) (l : List (List UInt8 × List UInt8)) : List Blk → List AV → Option (List Blk × AV × Prop)
  | [.cells n false zl l', .cells sz' false z' v'], [.ref 0 0 m1 m2, .clo f' 0 [.ptr 1 0 0 1]] => some ([.cells n false zl l', .cells sz' false z' v'], .int .i64 (idxP p l), n = 2 ∧ zl = (AV.agg [AV.str [], AV.str []]) ∧ l' = l.map enc_fld ∧ sz' = sz ∧ z' = z ∧ v' = v ∧ m1 = l.length ∧ m2 = l.length ∧ f' = f)
  | _, _ => none
theorem del_F {f : FuncId} (hy : ¬ f = 1000000) {sz : Nat} {z : AV} {v : List AV} (hv : BoxOK v) (hz : ∀ σ, ren σ z = z) {p : List UInt8 × List UInt8 → Bool} {q : List UInt8 × List UInt8 → Prop} (hs : ∀ x, q x → SpecE Try.prog f [.cells sz false z v] [enc_fld x, .ptr 0 0 0 1] [.cells sz false z v] (.bool (p x)))
    (l : List (List UInt8 × List UInt8)) (hq : ∀ x ∈ l, q x) (hl : l.length ≤ 1000000) :
    SpecE Try.prog 191 [.cells 2 false (AV.agg [AV.str [], AV.str []]) (l.map enc_fld), .cells sz false z v] [.ref 0 0 l.length l.length, .clo f 0 [.ptr 1 0 0 1]] [.cells 2 false (AV.agg [AV.str [], AV.str []]) ((delP ([], []) p l).map enc_fld), .cells sz false z v] (.ref 0 0 (l.filter fun x => !p x).length l.length) := by
  have hm : (1000000 : Nat) ≤ maxLen := by decide
  have ht : ∀ E args E' res q', tbJ_F sz z v f p l E args = some (E', res, q') → q' → SpecE Try.prog 189 E args E' res := by
    intro E args E' res q' h hq'
    unfold tbJ_F at h
    split at h
    · simp only [Option.some.injEq, Prod.mk.injEq] at h
      obtain ⟨rfl, rfl, rfl⟩ := h
      obtain ⟨rfl, rfl, rfl, rfl, rfl, rfl, h1, h2, rfl⟩ := hq'
      exact idxO_F hy hv hz hs l hq (by omega) _ _ h1 h2
    · cases h
  refine specFE (C := addT (addT nilT f (tbP_F sz z v p q)) 189 (tbJ_F sz z v f p l)) (wr := false) (D := fun _ => []) (U := fun _ => none) (E := [.cells 2 false (AV.agg [AV.str [], AV.str []]) (l.map enc_fld), .cells sz false z v]) (E' := [.cells 2 false (AV.agg [AV.str [], AV.str []]) ((delP ([], []) p l).map enc_fld), .cells sz false z v]) (res := [.ref 0 0 (l.filter fun x => !p x).length l.length]) [] Try.Ty.mixed (addT_ok (addT_ok nilT_ok (by simp) (tbP_F_ok hs)) (by decide +kernel) ht) Try.func191 (nE := 2) (nA := 2) (by decide +kernel) rfl rfl ?_
  simp only [Try.f191, bodyOf, rlOf]
  rw [W_V]
  obtain ⟨v1, v2, v3, v4⟩ := hv
  have v5 : ∀ L, contOK L v = True := fun L => contOK_pure v4
  simp only [tbJ_F, tbP_F, hy, hz, v1, v2, v3, v5, go_sem, go_sem, reduceIte, Nat.reduceEqDiff, Nat.reduceAdd, Nat.reduceMul, Nat.reduceSub, Nat.reduceBEq, Nat.reduceLT, Nat.reduceLeDiff, reduceCtorEq, Int.reduceNeg, Int.reduceEq, String.reduceEq, Int.reduceLT, Int.reduceLE, Int.reduceToNat, Int.reduceAdd, Int.reduceMul, Int.reduceSub, true_and, enc_fld, dec_fld]
  refine ⟨fun hno => ?_, fun hne => ?_⟩
  · have hf := filter_none (idxP_none' hno)
    have hd : delP ([], []) p l = l := by simp [delP, hf]
    rw [hd, hf]; exact ⟨rfl, rfl, rfl⟩
  obtain ⟨x, hx, hxl, hxn, hxp⟩ := idxP_some ([], []) hne
  rw [hx]
  refine ⟨by omega, ?_⟩
  refine VL_inv (X := Nat × Nat × List (List UInt8 × List UInt8)) (fun y => ⟨[(0, .ref 0 0 l.length l.length), (1, .clo f 0 [.ptr 1 0 0 1]), (5, .int .i64 y.1), (6, .int .i64 y.2.1)], [(0, .cells 2 false (AV.agg [AV.str [], AV.str []]) (y.2.2.map enc_fld)), (1, .cells sz false z v)]⟩)
    (fun y => y.2.2.length = l.length ∧ y.1 < y.2.1 ∧ y.2.1 ≤ l.length ∧ y.2.2.take y.1 = (l.take y.2.1).filter (fun x => !p x) ∧ y.2.2.drop y.2.1 = l.drop y.2.1) (fun y => l.length - y.2.1) (x, x + 1, l) ?_ ?_ ?_
  · simp only [tbJ_F, tbP_F, hy, hz, v1, v2, v3, v5, go_sem, go_sem, reduceIte, Nat.reduceEqDiff, Nat.reduceAdd, Nat.reduceMul, Nat.reduceSub, Nat.reduceBEq, Nat.reduceLT, Nat.reduceLeDiff, reduceCtorEq, Int.reduceNeg, Int.reduceEq, String.reduceEq, Int.reduceLT, Int.reduceLE, Int.reduceToNat, Int.reduceAdd, Int.reduceMul, Int.reduceSub]
    try rfl
    try omega
  · refine ⟨rfl, Nat.lt_succ_self x, hxl, ?_, rfl⟩
    simp only
    rw [take_succ_getD ([], []) hxl, List.filter_append, filter_none hxn, List.filter_cons_of_neg (by rw [hxp]; simp), List.filter_nil, List.append_nil]
  rintro ⟨i, j, c⟩ ⟨i1, i2, i3, i4, i5⟩
  simp only at i1 i2 i3 i4 i5
  simp only [tbJ_F, tbP_F, hy, hz, v1, v2, v3, v5, i1, go_sem, go_sem, reduceIte, Nat.reduceEqDiff, Nat.reduceAdd, Nat.reduceMul, Nat.reduceSub, Nat.reduceBEq, Nat.reduceLT, Nat.reduceLeDiff, reduceCtorEq, Int.reduceNeg, Int.reduceEq, String.reduceEq, Int.reduceLT, Int.reduceLE, Int.reduceToNat, Int.reduceAdd, Int.reduceMul, Int.reduceSub, true_and, enc_fld, dec_fld]
  have hw := drop_eq_getD ([], []) i5
  have hs' := drop_eq_succ i5
  have hmem : j < l.length → l.getD j ([], []) ∈ l := fun h => List.mem_of_getElem? (getD_of_lt (s := l) (d := ([], [])) h)
  have htk : j < l.length → (l.take (j + 1)).filter (fun x => !p x) = c.take i ++ if p (l.getD j ([], [])) = true then [] else [l.getD j ([], [])] := fun h => by
    rw [take_succ_getD ([], []) h, List.filter_append, i4]
    by_cases hh : p (l.getD j ([], [])) = true
    · rw [if_pos hh, List.filter_cons_of_neg (by rw [hh]; simp), List.filter_nil]
    · rw [if_neg hh, List.filter_cons_of_pos (by simpa using hh), List.filter_nil]
  have hset : ∀ w : List UInt8 × List UInt8, (c.map enc_fld).set (0 + i) (enc_fld w) = (c.set i w).map enc_fld := fun w => by rw [Nat.zero_add, List.map_set]
  have hj0 : 0 + j = j := Nat.zero_add j
  rw [hj0, hw]
  refine ⟨fun hlt => ⟨by omega, by omega, hq _ (hmem (by omega)), fun hp => ⟨by omega, by omega, by omega, by omega, (i + 1, j + 1, c.set i (l.getD j ([], []))), ⟨⟨by simp only; omega, by simp only; omega⟩, hset _, congrArg (fun z => some (Blk.cells 2 false (AV.agg [AV.str [], AV.str []]) z)) (hset _).symm⟩,
      ⟨by simp only [List.length_set]; exact i1, by simp only; omega, by simp only; omega, ?_, ?_⟩, by simp only; omega⟩, fun hp => ⟨by omega, (i, j + 1, c), ⟨⟨rfl, by simp only; omega⟩, rfl, rfl⟩, ⟨i1, by simp only; omega, by simp only; omega, ?_, hs'⟩, by simp only; omega⟩⟩, fun hge => ?_⟩
  · simp only
    rw [set_take (by omega), htk (by omega), if_neg (fun h => by have h2 := hp; rw [show p (l.getD j ([], [])) = true from h] at h2; cases h2)]
  · simp only
    rw [set_drop (by omega), hs']
  · simp only
    rw [htk (by omega), if_pos hp, List.append_nil]
  · have e : j = l.length := by omega
    subst e
    rw [List.take_length] at i4
    have hli : (l.filter fun x => !p x).length = i := by rw [← i4, List.length_take]; omega
    have hrep : ∀ k : Nat, List.replicate k (AV.agg [AV.str [], AV.str []]) = (List.replicate k (([], []) : List UInt8 × List UInt8)).map enc_fld := fun k => (by rw [List.map_replicate] <;> try rfl)
    have hdel : (c.take (0 + i)).map enc_fld ++ (List.replicate (l.length - i) (AV.agg [AV.str [], AV.str []]) ++ (c.drop (0 + i + (l.length - i))).map enc_fld) = (delP ([], []) p l).map enc_fld := by
      rw [Nat.zero_add, i4, List.drop_eq_nil_of_le (by omega), delP, hli, List.map_append, ← hrep, List.map_nil, List.append_nil]
    rw [hdel]
    refine ⟨by omega, ⟨by rw [List.length_map, delP_len], by omega, by omega⟩, hli.symm, rfl, rfl⟩

end Go.Proofs.Try.Slc
