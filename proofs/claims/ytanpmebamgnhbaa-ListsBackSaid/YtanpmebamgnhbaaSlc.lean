/- slices: the walks of the functions over predicates. No condition beyond those that a machine's numbers bring. -/
import Derived.Test.YtanpmebamgnhbaaSlcM
import Derived.Test.YtanpmebamgnhbaaTyp
import Derived.Test.YtanpmebamgnhbaaProg
set_option linter.unusedVariables false
set_option linter.unusedSimpArgs false
namespace Go.Proofs.Try.Slc
open Go Go.Abs Go.Proofs Go.Mdl


def tbP_S (sz : Nat) (z v : AV) (p : List UInt8 → Bool) (q : List UInt8 → Prop) : List Blk → List AV → Option (List Blk × AV × Prop)
  | [.cells sz' false z' [v']], [a, .ptr 0 0 0 1] => some ([.cells sz' false z' [v']], .bool (p (toStr a)), sz' = sz ∧ z' = z ∧ v' = v ∧ a = .str (toStr a) ∧ q (toStr a))
  | _, _ => none
theorem tbP_S_ok {f : FuncId} {sz : Nat} {z v : AV} {p : List UInt8 → Bool} {q : List UInt8 → Prop} (hs : ∀ x, q x → SpecE Try.prog f [.cells sz false z [v]] [.str x, .ptr 0 0 0 1] [.cells sz false z [v]] (.bool (p x))) :
    ∀ E args E' res q', tbP_S sz z v p q E args = some (E', res, q') → q' → SpecE Try.prog f E args E' res := by
  intro E args E' res q' h hq
  unfold tbP_S at h
  split at h
  · rename_i sz' z' v' a
    simp only [Option.some.injEq, Prod.mk.injEq] at h
    obtain ⟨rfl, rfl, rfl⟩ := h
    obtain ⟨rfl, rfl, rfl, h1, h2⟩ := hq
    have := hs _ h2
    rw [← h1] at this; exact this
  · cases h
theorem idx_S {f : FuncId} (hy : ¬ f = 1000000) {sz : Nat} {z v : AV} (hv : BoxOK v) (hz : ∀ σ, ren σ z = z) {p : List UInt8 → Bool} {q : List UInt8 → Prop} (hs : ∀ x, q x → SpecE Try.prog f [.cells sz false z [v]] [.str x, .ptr 0 0 0 1] [.cells sz false z [v]] (.bool (p x)))
    (l : List (List UInt8)) (hq : ∀ x ∈ l, q x) (hl : l.length ≤ maxLen) :
    SpecE Try.prog 237 [.cells sz false z [v]] [.list 1 (l.map .str), .clo f 0 [.ptr 0 0 0 1]] [.cells sz false z [v]] (.int .i64 (idxP p l)) := by
  refine specFE (C := addT nilT f (tbP_S sz z v p q)) (wr := false) (D := fun _ => []) (U := fun _ => none) (E := [.cells sz false z [v]]) (E' := [.cells sz false z [v]]) (res := [.int .i64 (idxP p l)]) [] Try.Ty.mixed (addT_ok nilT_ok (by simp) (tbP_S_ok hs)) Try.func237 (nE := 1) (nA := 2) (by decide +kernel) rfl rfl ?_
  simp only [Try.f237, bodyOf, rlOf]
  rw [W_V]
  have hm : l.length ≤ 9223372036854775807 := hl
  obtain ⟨v1, v2, v3, v4⟩ := hv
  have v5 : ∀ L, contOK L [v] = True := fun L => contOK_pure (by simp [pureEl, v4])
  simp only [tbP_S, hy, hz, v1, v2, v3, v5, go_sem, go_sem, reduceIte, Nat.reduceEqDiff, Nat.reduceAdd, Nat.reduceMul, Nat.reduceSub, Nat.reduceBEq, Nat.reduceLT, Nat.reduceLeDiff, reduceCtorEq, Int.reduceNeg, Int.reduceEq, String.reduceEq, Int.reduceLT, Int.reduceLE, Int.reduceToNat, Int.reduceAdd, Int.reduceMul, Int.reduceSub, Try.Ty.g1, Try.underlying1, Try.underlying2, Try.Ty.s2, Try.Ty.b2, Try.Ty.a2, Try.Ty.z2, Try.underlying3, Try.Ty.s3, Try.Ty.b3, Try.Ty.a3, Try.Ty.z3, Try.underlying4, Try.Ty.s4, Try.Ty.b4, Try.Ty.a4, Try.Ty.z4, Try.underlying9, Try.Ty.s9, Try.Ty.b9, Try.Ty.a9, Try.Ty.z9, Try.Ty.g22, Try.underlying22, Try.Ty.s22, Try.Ty.b22, Try.Ty.a22, Try.Ty.z22, Try.Ty.g31, Try.underlying31, Try.Ty.g109, Try.underlying109, Try.Ty.g114, Try.underlying114, Try.Ty.g208, Try.underlying208]
  refine VL_inv (X := Nat) (fun k => ⟨[(0, .list 1 (l.map .str)), (1, .clo f 0 [.ptr 0 0 0 1]), (7, .int .i64 l.length), (8, .int .i64 k)], [(0, .cells sz false z [v])]⟩) (fun k => k ≤ l.length ∧ (l.take k).any p = false) (fun k => l.length - k) 0 ?_ ?_ ?_
  · simp only [tbP_S, hy, hz, v1, v2, v3, v5, go_sem, go_sem, reduceIte, Nat.reduceEqDiff, Nat.reduceAdd, Nat.reduceMul, Nat.reduceSub, Nat.reduceBEq, Nat.reduceLT, Nat.reduceLeDiff, reduceCtorEq, Int.reduceNeg, Int.reduceEq, String.reduceEq, Int.reduceLT, Int.reduceLE, Int.reduceToNat, Int.reduceAdd, Int.reduceMul, Int.reduceSub]
    try rfl
  · exact ⟨Nat.zero_le _, by simp⟩
  rintro k ⟨hk, hn⟩
  simp only [tbP_S, hy, hz, v1, v2, v3, v5, go_sem, go_sem, reduceIte, Nat.reduceEqDiff, Nat.reduceAdd, Nat.reduceMul, Nat.reduceSub, Nat.reduceBEq, Nat.reduceLT, Nat.reduceLeDiff, reduceCtorEq, Int.reduceNeg, Int.reduceEq, String.reduceEq, Int.reduceLT, Int.reduceLE, Int.reduceToNat, Int.reduceAdd, Int.reduceMul, Int.reduceSub, Try.Ty.g1, Try.underlying1, Try.underlying2, Try.Ty.s2, Try.Ty.b2, Try.Ty.a2, Try.Ty.z2, Try.underlying3, Try.Ty.s3, Try.Ty.b3, Try.Ty.a3, Try.Ty.z3, Try.underlying4, Try.Ty.s4, Try.Ty.b4, Try.Ty.a4, Try.Ty.z4, Try.underlying9, Try.Ty.s9, Try.Ty.b9, Try.Ty.a9, Try.Ty.z9, Try.Ty.g22, Try.underlying22, Try.Ty.s22, Try.Ty.b22, Try.Ty.a22, Try.Ty.z22, Try.Ty.g31, Try.underlying31, Try.Ty.g109, Try.underlying109, Try.Ty.g114, Try.underlying114, Try.Ty.g208, Try.underlying208, toStr]
  refine ⟨fun hlt => ⟨by omega, hq _ (List.mem_of_getElem? (getD_of_lt (s := l) (i := k) (d := []) (by omega))), fun hp => (idxP_hit [] (by omega) hn hp).symm, fun hp => ⟨by omega, k + 1, by omega, ⟨by omega, by rw [any_take_succ [] (by omega) hn]; exact hp⟩, by omega⟩⟩, fun hge => ?_⟩
  have : k = l.length := by omega
  subst this
  rw [List.take_length] at hn
  exact (idxP_none hn).symm

def tbI_S (sz : Nat) (z v : AV) (f : FuncId) (p : List UInt8 → Bool) (l : List (List UInt8)) : List Blk → List AV → Option (List Blk × AV × Prop)
  | [.cells sz' false z' [v']], [.list n l', .clo f' 0 [.ptr 0 0 0 1]] => some ([.cells sz' false z' [v']], .int .i64 (idxP p l), sz' = sz ∧ z' = z ∧ v' = v ∧ n = 1 ∧ l' = l.map .str ∧ f' = f)
  | _, _ => none
theorem has_S {f : FuncId} (hy : ¬ f = 1000000) {sz : Nat} {z v : AV} (hv : BoxOK v) (hz : ∀ σ, ren σ z = z) {p : List UInt8 → Bool} {q : List UInt8 → Prop} (hs : ∀ x, q x → SpecE Try.prog f [.cells sz false z [v]] [.str x, .ptr 0 0 0 1] [.cells sz false z [v]] (.bool (p x)))
    (l : List (List UInt8)) (hq : ∀ x ∈ l, q x) (hl : l.length ≤ maxLen) :
    SpecE Try.prog 145 [.cells sz false z [v]] [.list 1 (l.map .str), .clo f 0 [.ptr 0 0 0 1]] [.cells sz false z [v]] (.bool (l.any p)) := by
  have ht : ∀ E args E' res q', tbI_S sz z v f p l E args = some (E', res, q') → q' → SpecE Try.prog 237 E args E' res := by
    intro E args E' res q' h hq'
    unfold tbI_S at h
    split at h
    · simp only [Option.some.injEq, Prod.mk.injEq] at h
      obtain ⟨rfl, rfl, rfl⟩ := h
      obtain ⟨rfl, rfl, rfl, rfl, rfl, rfl⟩ := hq'
      exact idx_S hy hv hz hs l hq hl
    · cases h
  refine specFE (C := addT nilT 237 (tbI_S sz z v f p l)) (wr := false) (D := fun _ => []) (U := fun _ => none) (E := [.cells sz false z [v]]) (E' := [.cells sz false z [v]]) (res := [.bool (l.any p)]) [] Try.Ty.mixed (addT_ok nilT_ok (by decide +kernel) ht) Try.func145 (nE := 1) (nA := 2) (by decide +kernel) rfl rfl ?_
  simp only [Try.f145, bodyOf, rlOf]
  rw [W_V]
  obtain ⟨v1, v2, v3, v4⟩ := hv
  have v5 : ∀ L, contOK L [v] = True := fun L => contOK_pure (by simp [pureEl, v4])
  simp only [tbI_S, hz, v1, v2, v3, v5, go_sem, go_sem, reduceIte, Nat.reduceEqDiff, Nat.reduceAdd, Nat.reduceMul, Nat.reduceSub, Nat.reduceBEq, Nat.reduceLT, Nat.reduceLeDiff, reduceCtorEq, Int.reduceNeg, Int.reduceEq, String.reduceEq, Int.reduceLT, Int.reduceLE, Int.reduceToNat, Int.reduceAdd, Int.reduceMul, Int.reduceSub, Try.Ty.g1, Try.underlying1, Try.underlying2, Try.Ty.s2, Try.Ty.b2, Try.Ty.a2, Try.Ty.z2, Try.underlying3, Try.Ty.s3, Try.Ty.b3, Try.Ty.a3, Try.Ty.z3, Try.underlying4, Try.Ty.s4, Try.Ty.b4, Try.Ty.a4, Try.Ty.z4, Try.underlying9, Try.Ty.s9, Try.Ty.b9, Try.Ty.a9, Try.Ty.z9, Try.Ty.g22, Try.underlying22, Try.Ty.s22, Try.Ty.b22, Try.Ty.a22, Try.Ty.z22, Try.Ty.g31, Try.underlying31, Try.Ty.g125, Try.underlying125, Try.Ty.g126, Try.underlying126, Try.Ty.g131, Try.underlying131, Try.Ty.g208, Try.underlying208, Try.Ty.g237, Try.underlying237]
  rw [Bool.eq_iff_iff, decide_eq_true_eq, idxP_ge]


def tbP_F (sz : Nat) (z v : AV) (p : List UInt8 × List UInt8 → Bool) (q : List UInt8 × List UInt8 → Prop) : List Blk → List AV → Option (List Blk × AV × Prop)
  | [.cells sz' false z' [v']], [a, .ptr 0 0 0 1] => some ([.cells sz' false z' [v']], .bool (p (dec_fld a)), sz' = sz ∧ z' = z ∧ v' = v ∧ a = enc_fld (dec_fld a) ∧ q (dec_fld a))
  | _, _ => none
theorem tbP_F_ok {f : FuncId} {sz : Nat} {z v : AV} {p : List UInt8 × List UInt8 → Bool} {q : List UInt8 × List UInt8 → Prop} (hs : ∀ x, q x → SpecE Try.prog f [.cells sz false z [v]] [enc_fld x, .ptr 0 0 0 1] [.cells sz false z [v]] (.bool (p x))) :
    ∀ E args E' res q', tbP_F sz z v p q E args = some (E', res, q') → q' → SpecE Try.prog f E args E' res := by
  intro E args E' res q' h hq
  unfold tbP_F at h
  split at h
  · rename_i sz' z' v' a
    simp only [Option.some.injEq, Prod.mk.injEq] at h
    obtain ⟨rfl, rfl, rfl⟩ := h
    obtain ⟨rfl, rfl, rfl, h1, h2⟩ := hq
    have := hs _ h2
    rw [← h1] at this; exact this
  · cases h
theorem idx_F {f : FuncId} (hy : ¬ f = 1000000) {sz : Nat} {z v : AV} (hv : BoxOK v) (hz : ∀ σ, ren σ z = z) {p : List UInt8 × List UInt8 → Bool} {q : List UInt8 × List UInt8 → Prop} (hs : ∀ x, q x → SpecE Try.prog f [.cells sz false z [v]] [enc_fld x, .ptr 0 0 0 1] [.cells sz false z [v]] (.bool (p x)))
    (l : List (List UInt8 × List UInt8)) (hq : ∀ x ∈ l, q x) (hl : l.length ≤ maxLen) :
    SpecE Try.prog 189 [.cells sz false z [v]] [.list 2 (l.map enc_fld), .clo f 0 [.ptr 0 0 0 1]] [.cells sz false z [v]] (.int .i64 (idxP p l)) := by
  refine specFE (C := addT nilT f (tbP_F sz z v p q)) (wr := false) (D := fun _ => []) (U := fun _ => none) (E := [.cells sz false z [v]]) (E' := [.cells sz false z [v]]) (res := [.int .i64 (idxP p l)]) [] Try.Ty.mixed (addT_ok nilT_ok (by simp) (tbP_F_ok hs)) Try.func189 (nE := 1) (nA := 2) (by decide +kernel) rfl rfl ?_
  simp only [Try.f189, bodyOf, rlOf]
  rw [W_V]
  have hm : l.length ≤ 9223372036854775807 := hl
  obtain ⟨v1, v2, v3, v4⟩ := hv
  have v5 : ∀ L, contOK L [v] = True := fun L => contOK_pure (by simp [pureEl, v4])
  simp only [tbP_F, hy, hz, v1, v2, v3, v5, go_sem, go_sem, reduceIte, Nat.reduceEqDiff, Nat.reduceAdd, Nat.reduceMul, Nat.reduceSub, Nat.reduceBEq, Nat.reduceLT, Nat.reduceLeDiff, reduceCtorEq, Int.reduceNeg, Int.reduceEq, String.reduceEq, Int.reduceLT, Int.reduceLE, Int.reduceToNat, Int.reduceAdd, Int.reduceMul, Int.reduceSub, Try.Ty.g1, Try.underlying1, Try.underlying2, Try.Ty.s2, Try.Ty.b2, Try.Ty.a2, Try.Ty.z2, Try.underlying3, Try.Ty.s3, Try.Ty.b3, Try.Ty.a3, Try.Ty.z3, Try.underlying4, Try.Ty.s4, Try.Ty.b4, Try.Ty.a4, Try.Ty.z4, Try.underlying9, Try.Ty.s9, Try.Ty.b9, Try.Ty.a9, Try.Ty.z9, Try.Ty.g60, Try.underlying60, Try.Ty.s60, Try.Ty.b60, Try.Ty.a60, Try.Ty.z60, Try.underlying73, Try.Ty.s73, Try.Ty.b73, Try.Ty.a73, Try.Ty.g73, Try.Ty.h73, Try.Ty.z73, Try.Ty.g109, Try.underlying109, Try.Ty.g114, Try.underlying114, Try.Ty.g160, Try.underlying160, Try.Ty.g161, Try.underlying161]
  refine VL_inv (X := Nat) (fun k => ⟨[(0, .list 2 (l.map enc_fld)), (1, .clo f 0 [.ptr 0 0 0 1]), (7, .int .i64 l.length), (8, .int .i64 k)], [(0, .cells sz false z [v])]⟩) (fun k => k ≤ l.length ∧ (l.take k).any p = false) (fun k => l.length - k) 0 ?_ ?_ ?_
  · simp only [tbP_F, hy, hz, v1, v2, v3, v5, go_sem, go_sem, reduceIte, Nat.reduceEqDiff, Nat.reduceAdd, Nat.reduceMul, Nat.reduceSub, Nat.reduceBEq, Nat.reduceLT, Nat.reduceLeDiff, reduceCtorEq, Int.reduceNeg, Int.reduceEq, String.reduceEq, Int.reduceLT, Int.reduceLE, Int.reduceToNat, Int.reduceAdd, Int.reduceMul, Int.reduceSub]
    try rfl
  · exact ⟨Nat.zero_le _, by simp⟩
  rintro k ⟨hk, hn⟩
  simp only [tbP_F, hy, hz, v1, v2, v3, v5, go_sem, go_sem, reduceIte, Nat.reduceEqDiff, Nat.reduceAdd, Nat.reduceMul, Nat.reduceSub, Nat.reduceBEq, Nat.reduceLT, Nat.reduceLeDiff, reduceCtorEq, Int.reduceNeg, Int.reduceEq, String.reduceEq, Int.reduceLT, Int.reduceLE, Int.reduceToNat, Int.reduceAdd, Int.reduceMul, Int.reduceSub, Try.Ty.g1, Try.underlying1, Try.underlying2, Try.Ty.s2, Try.Ty.b2, Try.Ty.a2, Try.Ty.z2, Try.underlying3, Try.Ty.s3, Try.Ty.b3, Try.Ty.a3, Try.Ty.z3, Try.underlying4, Try.Ty.s4, Try.Ty.b4, Try.Ty.a4, Try.Ty.z4, Try.underlying9, Try.Ty.s9, Try.Ty.b9, Try.Ty.a9, Try.Ty.z9, Try.Ty.g60, Try.underlying60, Try.Ty.s60, Try.Ty.b60, Try.Ty.a60, Try.Ty.z60, Try.underlying73, Try.Ty.s73, Try.Ty.b73, Try.Ty.a73, Try.Ty.g73, Try.Ty.h73, Try.Ty.z73, Try.Ty.g109, Try.underlying109, Try.Ty.g114, Try.underlying114, Try.Ty.g160, Try.underlying160, Try.Ty.g161, Try.underlying161, enc_fld, dec_fld]
  refine ⟨fun hlt => ⟨by omega, hq _ (List.mem_of_getElem? (getD_of_lt (s := l) (i := k) (d := ([], [])) (by omega))), fun hp => (idxP_hit ([], []) (by omega) hn hp).symm, fun hp => ⟨by omega, k + 1, by omega, ⟨by omega, by rw [any_take_succ ([], []) (by omega) hn]; exact hp⟩, by omega⟩⟩, fun hge => ?_⟩
  have : k = l.length := by omega
  subst this
  rw [List.take_length] at hn
  exact (idxP_none hn).symm


end Go.Proofs.Try.Slc
