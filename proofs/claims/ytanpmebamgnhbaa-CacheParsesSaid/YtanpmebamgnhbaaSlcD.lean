/- slices: directives sought by a predicate. No condition beyond those that a machine's numbers bring. -/
import Derived.Test.YtanpmebamgnhbaaSlc
import Derived.Test.YtanpmebamgnhbaaCacM
set_option linter.unusedVariables false
set_option linter.unusedSimpArgs false
namespace Go.Proofs.Try.SlcD
open Go Go.Abs Go.Proofs Go.Mdl
def tbP_D (sz : Nat) (z : AV) (v : List AV) (p : Dir → Bool) (q : Dir → Prop) : List Blk → List AV → Option (List Blk × AV × Prop)
  | [.cells sz' false z' v'], [a, .ptr 0 0 0 1] => some ([.cells sz' false z' v'], .bool (p (dec_dir a)), sz' = sz ∧ z' = z ∧ v' = v ∧ a = enc_dir (dec_dir a) ∧ q (dec_dir a))
  | _, _ => none
theorem tbP_D_ok {f : FuncId} {sz : Nat} {z : AV} {v : List AV} {p : Dir → Bool} {q : Dir → Prop} (hs : ∀ x, q x → SpecE Try.prog f [.cells sz false z v] [enc_dir x, .ptr 0 0 0 1] [.cells sz false z v] (.bool (p x))) :
    ∀ E args E' res q', tbP_D sz z v p q E args = some (E', res, q') → q' → SpecE Try.prog f E args E' res := by
  intro E args E' res q' h hq
  unfold tbP_D at h
  split at h
  · rename_i sz' z' v' a
    simp only [Option.some.injEq, Prod.mk.injEq] at h
    obtain ⟨rfl, rfl, rfl⟩ := h
    obtain ⟨rfl, rfl, rfl, h1, h2⟩ := hq
    have := hs _ h2
    rw [← h1] at this; exact this
  · cases h
theorem idx_D {f : FuncId} (hy : ¬ f = 1000000) {sz : Nat} {z : AV} {v : List AV} (hv : BoxOK v) (hz : ∀ σ, ren σ z = z) {p : Dir → Bool} {q : Dir → Prop} (hs : ∀ x, q x → SpecE Try.prog f [.cells sz false z v] [enc_dir x, .ptr 0 0 0 1] [.cells sz false z v] (.bool (p x)))
    (l : List (Dir)) (hq : ∀ x ∈ l, q x) (hl : l.length ≤ maxLen) :
    SpecE Try.prog 272 [.cells sz false z v] [.list 3 (l.map enc_dir), .clo f 0 [.ptr 0 0 0 1]] [.cells sz false z v] (.int .i64 (idxP p l)) := by
  refine specFE (C := addT nilT f (tbP_D sz z v p q)) (wr := false) (D := fun _ => []) (U := fun _ => none) (E := [.cells sz false z v]) (E' := [.cells sz false z v]) (res := [.int .i64 (idxP p l)]) [] Try.Ty.mixed (addT_ok nilT_ok (by simp) (tbP_D_ok hs)) Try.func272 (nE := 1) (nA := 2) (by decide +kernel) rfl rfl ?_
  simp only [Try.f272, bodyOf, rlOf]
  rw [W_V]
  have hm : l.length ≤ 9223372036854775807 := hl
  obtain ⟨v1, v2, v3, v4⟩ := hv
  have v5 : ∀ L, contOK L v = True := fun L => contOK_pure v4
  simp only [tbP_D, hy, hz, v1, v2, v3, v5, go_sem, go_sem, reduceIte, Nat.reduceEqDiff, Nat.reduceAdd, Nat.reduceMul, Nat.reduceSub, Nat.reduceBEq, Nat.reduceLT, Nat.reduceLeDiff, reduceCtorEq, Int.reduceNeg, Int.reduceEq, String.reduceEq, Int.reduceLT, Int.reduceLE, Int.reduceToNat, Int.reduceAdd, Int.reduceMul, Int.reduceSub, true_and]
  refine VL_inv (X := Nat) (fun k => ⟨[(0, .list 3 (l.map enc_dir)), (1, .clo f 0 [.ptr 0 0 0 1]), (7, .int .i64 l.length), (8, .int .i64 k)], [(0, .cells sz false z v)]⟩) (fun k => k ≤ l.length ∧ (l.take k).any p = false) (fun k => l.length - k) 0 ?_ ?_ ?_
  · simp only [tbP_D, hy, hz, v1, v2, v3, v5, go_sem, go_sem, reduceIte, Nat.reduceEqDiff, Nat.reduceAdd, Nat.reduceMul, Nat.reduceSub, Nat.reduceBEq, Nat.reduceLT, Nat.reduceLeDiff, reduceCtorEq, Int.reduceNeg, Int.reduceEq, String.reduceEq, Int.reduceLT, Int.reduceLE, Int.reduceToNat, Int.reduceAdd, Int.reduceMul, Int.reduceSub]
    try rfl
  · exact ⟨Nat.zero_le _, by simp⟩
  rintro k ⟨hk, hn⟩
  simp only [tbP_D, hy, hz, v1, v2, v3, v5, go_sem, go_sem, reduceIte, Nat.reduceEqDiff, Nat.reduceAdd, Nat.reduceMul, Nat.reduceSub, Nat.reduceBEq, Nat.reduceLT, Nat.reduceLeDiff, reduceCtorEq, Int.reduceNeg, Int.reduceEq, String.reduceEq, Int.reduceLT, Int.reduceLE, Int.reduceToNat, Int.reduceAdd, Int.reduceMul, Int.reduceSub, true_and, enc_dir, dec_dir]
  refine ⟨fun hlt => ⟨by omega, hq _ (List.mem_of_getElem? (getD_of_lt (s := l) (i := k) (d := dir0) (by omega))), fun hp => (idxP_hit dir0 (by omega) hn hp).symm, fun hp => ⟨by omega, k + 1, by omega, ⟨by omega, by rw [any_take_succ dir0 (by omega) hn]; exact hp⟩, by omega⟩⟩, fun hge => ?_⟩
  have : k = l.length := by omega
  subst this
  rw [List.take_length] at hn
  exact (idxP_none hn).symm

end Go.Proofs.Try.SlcD
