/- target: the walks. No condition beyond those that a machine's numbers bring. -/
import Derived.Test.YtlkfjkimnkhelaaDoorTgtB
import Derived.Test.YtlkfjkimnkhelaaDoorOctC
import Derived.Test.YtlkfjkimnkhelaaDoorLibS
set_option linter.unusedVariables false
set_option linter.unusedSimpArgs false
namespace Go.Mdl
open Go Go.Abs
def stopI (r : Int) : Bool := decide (r = 47) || decide (r = 63)
theorem stop_rune : RuneB (fun r => !stopI r) (fun c => !stopB c) true := by
  refine ⟨fun c _ => ?_, fun r h => ?_, fun c h => ?_⟩
  · have : ∀ k : UInt8, (decide (((c.toNat : Nat) : Int) = k.toNat)) = decide (c = k) := fun k => by
      by_cases e : c = k
      · subst e; simp
      · rw [decide_eq_false e, decide_eq_false]
        intro h; exact e (UInt8.toNat.inj (by omega))
    have h1 := this 47
    have h2 := this 63
    simp only [stopI, stopB]
    rw [← h1, ← h2]; rfl
  · have h1 : ¬ r = 47 := by omega
    have h2 : ¬ r = 63 := by omega
    simp [stopI, h1, h2]
  · have h1 : ¬ c = 47 := by rintro rfl; simp at h
    have h2 : ¬ c = 63 := by rintro rfl; simp at h
    simp [stopB, h1, h2]
def idxS (p : UInt8 → Bool) (s : List UInt8) : Int := if spanL p s < s.length then (spanL p s : Int) else -1
theorem idxS_at {p : UInt8 → Bool} {s : List UInt8} {x : Nat} (hx : x < s.length) (h : (s.take x).all p = true) (hp : p (s.getD x 0) = false) : (x : Int) = idxS p s := by
  have := span_step hx h hp
  rw [idxS, this, if_pos hx]
theorem idxS_none {p : UInt8 → Bool} {s : List UInt8} (h : s.all p = true) : (-1 : Int) = idxS p s := by
  rw [idxS, span_end h, if_neg (by omega)]
theorem rune_stop {PR : Int → Bool} {p : UInt8 → Bool} (hr : RuneB PR p true) {s : List UInt8} {x : Nat} (hx : x < s.length) (h : PR (runeAt s x).1 = false) : p (s.getD x 0) = false := by
  by_cases hl : (s.getD x 0).toNat < 128
  · rw [rune_low hl] at h
    rw [← hr.low _ hl]; exact h
  · have := (rune_high hx (by omega)).1
    rw [hr.rune _ this] at h; cases h
end Go.Mdl
namespace Go.Proofs.Tryd.Tgt
open Go Go.Abs Go.Proofs Go.Mdl

def T_specVisP : Tbl := fun g E args => nilT g E args
theorem T_specVisP_ok : TblOK Tryd.prog T_specVisP := nilT_ok
set_option maxRecDepth 100000 in
set_option maxHeartbeats 4000000 in
theorem specVisP (r : Int) : SpecE Tryd.prog 45 [] [.int .i32 r] [] (.bool (visI r)) := by
  refine specF0 (C := T_specVisP) (wr := false) (D := fun _ => []) (U := fun _ => none) (res := [.bool (visI r)]) Tryd.Ty.mixed T_specVisP_ok Tryd.func45 (nA := 1) (by decide +kernel) rfl (fun _ => rfl) ?_
  simp only [Tryd.f45, bodyOf, rlOf]
  rw [W_V]
  simp (config := {maxSteps := 2000000}) only [T_specVisP, go_sem, reduceIte, Nat.reduceEqDiff, Nat.reduceAdd, Nat.reduceMul, Nat.reduceDiv, Nat.reduceMod, Nat.reduceSub, Nat.reduceBEq, Nat.reduceLT, Nat.reduceLeDiff, reduceCtorEq, Int.reduceNeg, Int.reduceEq, String.reduceEq, Int.reduceLT, Int.reduceLE, Int.reduceToNat, Int.reduceAdd, Int.reduceMul, Int.reduceSub]
  (try simp (config := {maxSteps := 2000000}) only [gimp, impB, isT, go_sem, reduceIte, Nat.reduceEqDiff, Nat.reduceAdd, Nat.reduceMul, Nat.reduceDiv, Nat.reduceMod, Nat.reduceSub, Nat.reduceBEq, Nat.reduceLT, Nat.reduceLeDiff, reduceCtorEq, Int.reduceNeg, Int.reduceEq, String.reduceEq, Int.reduceLT, Int.reduceLE, Int.reduceToNat, Int.reduceAdd, Int.reduceMul, Int.reduceSub])
  simp [visI]
def tb_specVisP : List Blk → List AV → Option (List Blk × AV × Prop)
  | [], [.int .i32 r] => some ([], .bool (visI r), True)
  | _, _ => none
theorem tb_specVisP_ok : ∀ E args E' res p, tb_specVisP E args = some (E', res, p) → p → SpecE Tryd.prog 45 E args E' res := by
  intro E args E' res p h hp
  unfold tb_specVisP at h
  split at h
  · simp only [Option.some.injEq, Prod.mk.injEq] at h
    obtain ⟨rfl, rfl, rfl⟩ := h
    exact (specVisP _)
  · cases h
def T_specAllVis : Tbl := fun g E args => nilT g E args
theorem T_specAllVis_ok : TblOK Tryd.prog T_specAllVis := nilT_ok
set_option maxRecDepth 100000 in
set_option maxHeartbeats 4000000 in
theorem specAllVis (s : List UInt8) : SpecE Tryd.prog 44 [] [.str s, .clo 45 0 []] [] (.bool (s.all visB)) := by
  exact Oct.spec_all (by decide) vis_rune specVisP s
def tb_specAllVis : List Blk → List AV → Option (List Blk × AV × Prop)
  | [], [.str s, .clo 45 0 []] => some ([], .bool (s.all visB), True)
  | _, _ => none
theorem tb_specAllVis_ok : ∀ E args E' res p, tb_specAllVis E args = some (E', res, p) → p → SpecE Tryd.prog 44 E args E' res := by
  intro E args E' res p h hp
  unfold tb_specAllVis at h
  split at h
  · simp only [Option.some.injEq, Prod.mk.injEq] at h
    obtain ⟨rfl, rfl, rfl⟩ := h
    exact (specAllVis _)
  · cases h
def T_specVisible : Tbl := fun g E args => (addT nilT 44 Go.Proofs.Tryd.Tgt.tb_specAllVis) g E args
theorem T_specVisible_ok : TblOK Tryd.prog T_specVisible := (addT_ok nilT_ok (by decide +kernel) Go.Proofs.Tryd.Tgt.tb_specAllVis_ok)
set_option maxRecDepth 100000 in
set_option maxHeartbeats 4000000 in
theorem specVisible (s : List UInt8) : SpecE Tryd.prog 25 [] [.str s] [] (.bool (visS s)) := by
  refine specF0 (C := T_specVisible) (wr := false) (D := fun _ => []) (U := fun _ => none) (res := [.bool (visS s)]) Tryd.Ty.mixed T_specVisible_ok Tryd.func25 (nA := 1) (by decide +kernel) rfl (fun _ => rfl) ?_
  simp only [Tryd.f25, bodyOf, rlOf]
  rw [W_V]
  simp (config := {maxSteps := 2000000}) only [T_specVisible, Go.Proofs.Tryd.Tgt.tb_specAllVis, go_sem, reduceIte, Nat.reduceEqDiff, Nat.reduceAdd, Nat.reduceMul, Nat.reduceDiv, Nat.reduceMod, Nat.reduceSub, Nat.reduceBEq, Nat.reduceLT, Nat.reduceLeDiff, reduceCtorEq, Int.reduceNeg, Int.reduceEq, String.reduceEq, Int.reduceLT, Int.reduceLE, Int.reduceToNat, Int.reduceAdd, Int.reduceMul, Int.reduceSub]
  (try simp (config := {maxSteps := 2000000}) only [gimp, impB, isT, go_sem, reduceIte, Nat.reduceEqDiff, Nat.reduceAdd, Nat.reduceMul, Nat.reduceDiv, Nat.reduceMod, Nat.reduceSub, Nat.reduceBEq, Nat.reduceLT, Nat.reduceLeDiff, reduceCtorEq, Int.reduceNeg, Int.reduceEq, String.reduceEq, Int.reduceLT, Int.reduceLE, Int.reduceToNat, Int.reduceAdd, Int.reduceMul, Int.reduceSub])
  rfl
def tb_specVisible : List Blk → List AV → Option (List Blk × AV × Prop)
  | [], [.str s] => some ([], .bool (visS s), True)
  | _, _ => none
theorem tb_specVisible_ok : ∀ E args E' res p, tb_specVisible E args = some (E', res, p) → p → SpecE Tryd.prog 25 E args E' res := by
  intro E args E' res p h hp
  unfold tb_specVisible at h
  split at h
  · simp only [Option.some.injEq, Prod.mk.injEq] at h
    obtain ⟨rfl, rfl, rfl⟩ := h
    exact (specVisible _)
  · cases h
def T_specVisibleR : Tbl := fun g E args => nilT g E args
theorem T_specVisibleR_ok : TblOK Tryd.prog T_specVisibleR := nilT_ok
set_option maxRecDepth 100000 in
set_option maxHeartbeats 4000000 in
theorem specVisibleR (s : List UInt8) (h : s.length ≤ 2147483647) : SpecE Tryd.prog 30 [] [.str s] [] (.bool (visS s)) := by
  refine specF0 (C := T_specVisibleR) (wr := false) (D := fun _ => []) (U := fun _ => none) (res := [.bool (visS s)]) Tryd.Ty.mixed T_specVisibleR_ok Tryd.func30 (nA := 1) (by decide +kernel) rfl (fun _ => rfl) ?_
  simp only [Tryd.f30, bodyOf, rlOf]
  rw [W_V]
  simp (config := {maxSteps := 2000000}) only [T_specVisibleR, go_sem, reduceIte, Nat.reduceEqDiff, Nat.reduceAdd, Nat.reduceMul, Nat.reduceDiv, Nat.reduceMod, Nat.reduceSub, Nat.reduceBEq, Nat.reduceLT, Nat.reduceLeDiff, reduceCtorEq, Int.reduceNeg, Int.reduceEq, String.reduceEq, Int.reduceLT, Int.reduceLE, Int.reduceToNat, Int.reduceAdd, Int.reduceMul, Int.reduceSub]
  (try simp (config := {maxSteps := 2000000}) only [gimp, impB, isT, go_sem, reduceIte, Nat.reduceEqDiff, Nat.reduceAdd, Nat.reduceMul, Nat.reduceDiv, Nat.reduceMod, Nat.reduceSub, Nat.reduceBEq, Nat.reduceLT, Nat.reduceLeDiff, reduceCtorEq, Int.reduceNeg, Int.reduceEq, String.reduceEq, Int.reduceLT, Int.reduceLE, Int.reduceToNat, Int.reduceAdd, Int.reduceMul, Int.reduceSub])
  refine VL_inv (X := Nat) (fun x => ⟨[(0, .str s), (3, .int .i64 x)], []⟩) (fun x => x ≤ s.length ∧ (s.take x).all visB = true) (fun x => s.length - x) 0 ?_ ?_ ?_
  · simp only [T_specVisibleR, go_sem, reduceIte, Nat.reduceEqDiff, Nat.reduceAdd, Nat.reduceMul, Nat.reduceDiv, Nat.reduceMod, Nat.reduceSub, Nat.reduceBEq, Nat.reduceLT, Nat.reduceLeDiff, reduceCtorEq, Int.reduceNeg, Int.reduceEq, String.reduceEq, Int.reduceLT, Int.reduceLE, Int.reduceToNat, Int.reduceAdd, Int.reduceMul, Int.reduceSub]
    try rfl
  · exact ⟨Nat.zero_le _, by simp⟩
  rintro x ⟨hx, hn⟩
  simp (config := {maxSteps := 2000000}) only [T_specVisibleR, go_sem, reduceIte, Nat.reduceEqDiff, Nat.reduceAdd, Nat.reduceMul, Nat.reduceDiv, Nat.reduceMod, Nat.reduceSub, Nat.reduceBEq, Nat.reduceLT, Nat.reduceLeDiff, reduceCtorEq, Int.reduceNeg, Int.reduceEq, String.reduceEq, Int.reduceLT, Int.reduceLE, Int.reduceToNat, Int.reduceAdd, Int.reduceMul, Int.reduceSub]
  (try simp (config := {maxSteps := 2000000}) only [gimp, impB, isT, go_sem, reduceIte, Nat.reduceEqDiff, Nat.reduceAdd, Nat.reduceMul, Nat.reduceDiv, Nat.reduceMod, Nat.reduceSub, Nat.reduceBEq, Nat.reduceLT, Nat.reduceLeDiff, reduceCtorEq, Int.reduceNeg, Int.reduceEq, String.reduceEq, Int.reduceLT, Int.reduceLE, Int.reduceToNat, Int.reduceAdd, Int.reduceMul, Int.reduceSub])
  have hv : ∀ c : UInt8, visB c = true ↔ (33 ≤ (c.toNat : Int) ∧ (c.toNat : Int) ≤ 126) := fun c => by
    simp only [visB, visI, decide_eq_true_eq]; omega
  refine ⟨fun hlt => ?_, fun hge => ?_⟩
  · obtain ⟨h1, h2⟩ := all_step (p := visB) (s := s) (x := x) (by omega) hn
    refine ⟨by omega, ⟨fun _ => by omega, fun _ => by omega⟩, fun hb => ?_, fun g1 g2 => ⟨by omega, x + 1, by omega, ⟨by omega, h1 ((hv _).2 ⟨g1, g2⟩)⟩, by omega⟩⟩
    have : visB (s.getD x 0) = false := by
      rw [← Bool.not_eq_true, hv]; omega
    simp [visS, h2 this]
  · have : x = s.length := by omega
    subst this
    rw [List.take_length] at hn
    simp only [visS, hn, Bool.and_true]
    cases s <;> simp <;> omega
def tb_specVisibleR : List Blk → List AV → Option (List Blk × AV × Prop)
  | [], [.str s] => some ([], .bool (visS s), (s.length ≤ 2147483647))
  | _, _ => none
theorem tb_specVisibleR_ok : ∀ E args E' res p, tb_specVisibleR E args = some (E', res, p) → p → SpecE Tryd.prog 30 E args E' res := by
  intro E args E' res p h hp
  unfold tb_specVisibleR at h
  split at h
  · simp only [Option.some.injEq, Prod.mk.injEq] at h
    obtain ⟨rfl, rfl, rfl⟩ := h
    exact (specVisibleR _ hp)
  · cases h

def T_specHasSuffix1 : Tbl := fun g E args => nilT g E args
theorem T_specHasSuffix1_ok : TblOK Tryd.prog T_specHasSuffix1 := nilT_ok
set_option maxRecDepth 100000 in
set_option maxHeartbeats 4000000 in
theorem specHasSuffix1 (s : List UInt8) (c : UInt8) (hs : s.length ≤ maxLen) : SpecE Tryd.prog 48 [] [.str s, .str [c]] [] (.bool ([c].isSuffixOf s)) := by
  refine SpecE.ofCalls (by decide +kernel) (fun w ok vs hok hl hr => ?_)
  obtain ⟨v0, v1, rfl⟩ := list2 hl
  have e0 := (hr 0 _ _ rfl rfl).strInv
  have e1 := (hr 1 _ _ rfl rfl).strInv
  subst e0 e1
  refine (Tryd.strings_HasSuffix ⟨s.toArray⟩ ⟨#[c]⟩ w (by rw [ba_size]; exact hs)).mono ?_
  rintro e w' ⟨rfl, rfl⟩
  refine ⟨_, rfl, RowKit.Below.refl _ _, fun ok' => ?_⟩
  have e : Lib.hasSuffix (ByteArray.mk s.toArray).data.toList (ByteArray.mk #[c]).data.toList = [c].isSuffixOf s := rfl
  rw [e]
  exact .bool _
def tb_specHasSuffix1 : List Blk → List AV → Option (List Blk × AV × Prop)
  | [], [.str s, .str [c]] => some ([], .bool ([c].isSuffixOf s), (s.length ≤ maxLen))
  | _, _ => none
theorem tb_specHasSuffix1_ok : ∀ E args E' res p, tb_specHasSuffix1 E args = some (E', res, p) → p → SpecE Tryd.prog 48 E args E' res := by
  intro E args E' res p h hp
  unfold tb_specHasSuffix1 at h
  split at h
  · simp only [Option.some.injEq, Prod.mk.injEq] at h
    obtain ⟨rfl, rfl, rfl⟩ := h
    exact (specHasSuffix1 _ _ hp)
  · cases h

def T_specIndexS : Tbl := fun g E args => (addT nilT 69 Go.Proofs.Tryd.Lib.tb_specIndex1) g E args
theorem T_specIndexS_ok : TblOK Tryd.prog T_specIndexS := (addT_ok nilT_ok (by decide +kernel) Go.Proofs.Tryd.Lib.tb_specIndex1_ok)
set_option maxRecDepth 100000 in
set_option maxHeartbeats 4000000 in
theorem specIndexS (s : List UInt8) (c : UInt8) (hs : s.length ≤ maxLen) : SpecE Tryd.prog 46 [] [.str s, .str [c]] [] (.int .i64 (idxB c s)) := by
  refine specF0 (C := T_specIndexS) (wr := false) (D := fun _ => []) (U := fun _ => none) (res := [.int .i64 (idxB c s)]) Tryd.Ty.mixed T_specIndexS_ok Tryd.func46 (nA := 2) (by decide +kernel) rfl (fun _ => rfl) ?_
  simp only [Tryd.f46, bodyOf, rlOf]
  rw [W_V]
  simp (config := {maxSteps := 2000000}) only [T_specIndexS, Go.Proofs.Tryd.Lib.tb_specIndex1, go_sem, reduceIte, Nat.reduceEqDiff, Nat.reduceAdd, Nat.reduceMul, Nat.reduceDiv, Nat.reduceMod, Nat.reduceSub, Nat.reduceBEq, Nat.reduceLT, Nat.reduceLeDiff, reduceCtorEq, Int.reduceNeg, Int.reduceEq, String.reduceEq, Int.reduceLT, Int.reduceLE, Int.reduceToNat, Int.reduceAdd, Int.reduceMul, Int.reduceSub]
  (try simp (config := {maxSteps := 2000000}) only [gimp, impB, isT, go_sem, reduceIte, Nat.reduceEqDiff, Nat.reduceAdd, Nat.reduceMul, Nat.reduceDiv, Nat.reduceMod, Nat.reduceSub, Nat.reduceBEq, Nat.reduceLT, Nat.reduceLeDiff, reduceCtorEq, Int.reduceNeg, Int.reduceEq, String.reduceEq, Int.reduceLT, Int.reduceLE, Int.reduceToNat, Int.reduceAdd, Int.reduceMul, Int.reduceSub])
  exact hs
def tb_specIndexS : List Blk → List AV → Option (List Blk × AV × Prop)
  | [], [.str s, .str [c]] => some ([], .int .i64 (idxB c s), (s.length ≤ maxLen))
  | _, _ => none
theorem tb_specIndexS_ok : ∀ E args E' res p, tb_specIndexS E args = some (E', res, p) → p → SpecE Tryd.prog 46 E args E' res := by
  intro E args E' res p h hp
  unfold tb_specIndexS at h
  split at h
  · simp only [Option.some.injEq, Prod.mk.injEq] at h
    obtain ⟨rfl, rfl, rfl⟩ := h
    exact (specIndexS _ _ hp)
  · cases h
def T_specContains : Tbl := fun g E args => (addT nilT 46 Go.Proofs.Tryd.Tgt.tb_specIndexS) g E args
theorem T_specContains_ok : TblOK Tryd.prog T_specContains := (addT_ok nilT_ok (by decide +kernel) Go.Proofs.Tryd.Tgt.tb_specIndexS_ok)
set_option maxRecDepth 100000 in
set_option maxHeartbeats 4000000 in
theorem specContains (s : List UInt8) (c : UInt8) (hs : s.length ≤ maxLen) : SpecE Tryd.prog 26 [] [.str s, .str [c]] [] (.bool (decide (0 ≤ idxB c s))) := by
  refine specF0 (C := T_specContains) (wr := false) (D := fun _ => []) (U := fun _ => none) (res := [.bool (decide (0 ≤ idxB c s))]) Tryd.Ty.mixed T_specContains_ok Tryd.func26 (nA := 2) (by decide +kernel) rfl (fun _ => rfl) ?_
  simp only [Tryd.f26, bodyOf, rlOf]
  rw [W_V]
  simp (config := {maxSteps := 2000000}) only [T_specContains, Go.Proofs.Tryd.Tgt.tb_specIndexS, go_sem, reduceIte, Nat.reduceEqDiff, Nat.reduceAdd, Nat.reduceMul, Nat.reduceDiv, Nat.reduceMod, Nat.reduceSub, Nat.reduceBEq, Nat.reduceLT, Nat.reduceLeDiff, reduceCtorEq, Int.reduceNeg, Int.reduceEq, String.reduceEq, Int.reduceLT, Int.reduceLE, Int.reduceToNat, Int.reduceAdd, Int.reduceMul, Int.reduceSub]
  (try simp (config := {maxSteps := 2000000}) only [gimp, impB, isT, go_sem, reduceIte, Nat.reduceEqDiff, Nat.reduceAdd, Nat.reduceMul, Nat.reduceDiv, Nat.reduceMod, Nat.reduceSub, Nat.reduceBEq, Nat.reduceLT, Nat.reduceLeDiff, reduceCtorEq, Int.reduceNeg, Int.reduceEq, String.reduceEq, Int.reduceLT, Int.reduceLE, Int.reduceToNat, Int.reduceAdd, Int.reduceMul, Int.reduceSub])
  exact hs
def tb_specContains : List Blk → List AV → Option (List Blk × AV × Prop)
  | [], [.str s, .str [c]] => some ([], .bool (decide (0 ≤ idxB c s)), (s.length ≤ maxLen))
  | _, _ => none
theorem tb_specContains_ok : ∀ E args E' res p, tb_specContains E args = some (E', res, p) → p → SpecE Tryd.prog 26 E args E' res := by
  intro E args E' res p h hp
  unfold tb_specContains at h
  split at h
  · simp only [Option.some.injEq, Prod.mk.injEq] at h
    obtain ⟨rfl, rfl, rfl⟩ := h
    exact (specContains _ _ hp)
  · cases h

def T_specStopP : Tbl := fun g E args => nilT g E args
theorem T_specStopP_ok : TblOK Tryd.prog T_specStopP := nilT_ok
set_option maxRecDepth 100000 in
set_option maxHeartbeats 4000000 in
theorem specStopP (r : Int) : SpecE Tryd.prog 52 [] [.int .i32 r] [] (.bool (!(!stopI r))) := by
  refine specF0 (C := T_specStopP) (wr := false) (D := fun _ => []) (U := fun _ => none) (res := [.bool (!(!stopI r))]) Tryd.Ty.mixed T_specStopP_ok Tryd.func52 (nA := 1) (by decide +kernel) rfl (fun _ => rfl) ?_
  simp only [Tryd.f52, bodyOf, rlOf]
  rw [W_V]
  simp (config := {maxSteps := 2000000}) only [T_specStopP, go_sem, reduceIte, Nat.reduceEqDiff, Nat.reduceAdd, Nat.reduceMul, Nat.reduceDiv, Nat.reduceMod, Nat.reduceSub, Nat.reduceBEq, Nat.reduceLT, Nat.reduceLeDiff, reduceCtorEq, Int.reduceNeg, Int.reduceEq, String.reduceEq, Int.reduceLT, Int.reduceLE, Int.reduceToNat, Int.reduceAdd, Int.reduceMul, Int.reduceSub]
  (try simp (config := {maxSteps := 2000000}) only [gimp, impB, isT, go_sem, reduceIte, Nat.reduceEqDiff, Nat.reduceAdd, Nat.reduceMul, Nat.reduceDiv, Nat.reduceMod, Nat.reduceSub, Nat.reduceBEq, Nat.reduceLT, Nat.reduceLeDiff, reduceCtorEq, Int.reduceNeg, Int.reduceEq, String.reduceEq, Int.reduceLT, Int.reduceLE, Int.reduceToNat, Int.reduceAdd, Int.reduceMul, Int.reduceSub])
  simp [stopI]
def tb_specStopP : List Blk → List AV → Option (List Blk × AV × Prop)
  | [], [.int .i32 r] => some ([], .bool (!(!stopI r)), True)
  | _, _ => none
theorem tb_specStopP_ok : ∀ E args E' res p, tb_specStopP E args = some (E', res, p) → p → SpecE Tryd.prog 52 E args E' res := by
  intro E args E' res p h hp
  unfold tb_specStopP at h
  split at h
  · simp only [Option.some.injEq, Prod.mk.injEq] at h
    obtain ⟨rfl, rfl, rfl⟩ := h
    exact (specStopP _)
  · cases h
theorem spec_idx {f : FuncId} (hy : ¬ f = 1000000) {PR : Int → Bool} {p : UInt8 → Bool} (hr : RuneB PR p true) (hs : ∀ r, SpecE Tryd.prog f [] [.int .i32 r] [] (.bool (!PR r))) (s : List UInt8) :
    SpecE Tryd.prog 77 [] [.str s, .clo f 0 [], .bool true] [] (.int .i64 (idxS p s)) := by
  let tb : List Blk → List AV → Option (List Blk × AV × Prop) := fun E args => match E, args with
    | [], [.int .i32 r] => some ([], .bool (!PR r), True)
    | _, _ => none
  have htb : TblOK Tryd.prog (addT nilT f tb) := addT_ok nilT_ok (by simp) (fun E args E' res q h hp => by
    simp only [tb] at h
    split at h
    · simp only [Option.some.injEq, Prod.mk.injEq] at h
      obtain ⟨rfl, rfl, rfl⟩ := h
      exact hs _
    · cases h)
  refine specF0 (C := addT nilT f tb) (wr := false) (D := fun _ => []) (U := fun _ => none) (res := [.int .i64 (idxS p s)]) Tryd.Ty.mixed htb Tryd.func77 (nA := 3) (by decide +kernel) rfl (fun _ => rfl) ?_
  simp only [Tryd.f77, bodyOf, rlOf]
  rw [W_V]
  simp only [go_sem, go_sem, reduceIte, Nat.reduceEqDiff, Nat.reduceAdd, Nat.reduceMul, Nat.reduceDiv, Nat.reduceMod, Nat.reduceSub, Nat.reduceBEq, Nat.reduceLT, Nat.reduceLeDiff, reduceCtorEq, Int.reduceNeg, Int.reduceEq, String.reduceEq, Int.reduceLT, Int.reduceLE, Int.reduceToNat, Int.reduceAdd, Int.reduceMul, Int.reduceSub, Tryd.underlying9]
  refine VL_inv (X := Nat) (fun x => ⟨[(1, .clo f 0 []), (2, .bool true), (10, .it 176)], [(176, .iter s x)]⟩) (fun x => x ≤ s.length ∧ (s.take x).all p = true) (fun x => s.length - x) 0 ?_ ?_ ?_
  · simp only [go_sem, go_sem, reduceIte, Nat.reduceEqDiff, Nat.reduceAdd, Nat.reduceMul, Nat.reduceDiv, Nat.reduceMod, Nat.reduceSub, Nat.reduceBEq, Nat.reduceLT, Nat.reduceLeDiff, reduceCtorEq, Int.reduceNeg, Int.reduceEq, String.reduceEq, Int.reduceLT, Int.reduceLE, Int.reduceToNat, Int.reduceAdd, Int.reduceMul, Int.reduceSub]
  · exact ⟨Nat.zero_le _, by simp⟩
  rintro x ⟨hx, hn⟩
  simp only [tb, hy, go_sem, go_sem, reduceIte, Nat.reduceEqDiff, Nat.reduceAdd, Nat.reduceMul, Nat.reduceDiv, Nat.reduceMod, Nat.reduceSub, Nat.reduceBEq, Nat.reduceLT, Nat.reduceLeDiff, reduceCtorEq, Int.reduceNeg, Int.reduceEq, String.reduceEq, Int.reduceLT, Int.reduceLE, Int.reduceToNat, Int.reduceAdd, Int.reduceMul, Int.reduceSub, Tryd.underlying9]
  refine ⟨fun hlt => ?_, fun hge => ?_⟩
  · obtain ⟨h1, h2⟩ := hr.step hlt hn
    have h3 := rune_pos hlt
    refine ⟨hlt, hlt, fun he => idxS_at hlt hn (rune_stop hr hlt he), fun he => ⟨x + (runeAt s x).2, by rw [if_pos hlt], ⟨h3.2.2, h1 he⟩, by omega⟩⟩
  · have : x = s.length := by omega
    subst this
    rw [List.take_length] at hn
    exact idxS_none hn
def T_specIdxF : Tbl := fun g E args => nilT g E args
theorem T_specIdxF_ok : TblOK Tryd.prog T_specIdxF := nilT_ok
set_option maxRecDepth 100000 in
set_option maxHeartbeats 4000000 in
theorem specIdxF (s : List UInt8) : SpecE Tryd.prog 77 [] [.str s, .clo 52 0 [], .bool true] [] (.int .i64 (idxS (fun c => !stopB c) s)) := by
  exact spec_idx (by decide) stop_rune specStopP s
def tb_specIdxF : List Blk → List AV → Option (List Blk × AV × Prop)
  | [], [.str s, .clo 52 0 [], .bool true] => some ([], .int .i64 (idxS (fun c => !stopB c) s), True)
  | _, _ => none
theorem tb_specIdxF_ok : ∀ E args E' res p, tb_specIdxF E args = some (E', res, p) → p → SpecE Tryd.prog 77 E args E' res := by
  intro E args E' res p h hp
  unfold tb_specIdxF at h
  split at h
  · simp only [Option.some.injEq, Prod.mk.injEq] at h
    obtain ⟨rfl, rfl, rfl⟩ := h
    exact (specIdxF _)
  · cases h
def T_specIdxFunc : Tbl := fun g E args => (addT nilT 77 Go.Proofs.Tryd.Tgt.tb_specIdxF) g E args
theorem T_specIdxFunc_ok : TblOK Tryd.prog T_specIdxFunc := (addT_ok nilT_ok (by decide +kernel) Go.Proofs.Tryd.Tgt.tb_specIdxF_ok)
set_option maxRecDepth 100000 in
set_option maxHeartbeats 4000000 in
theorem specIdxFunc (s : List UInt8) : SpecE Tryd.prog 51 [] [.str s, .clo 52 0 []] [] (.int .i64 (idxS (fun c => !stopB c) s)) := by
  refine specF0 (C := T_specIdxFunc) (wr := false) (D := fun _ => []) (U := fun _ => none) (res := [.int .i64 (idxS (fun c => !stopB c) s)]) Tryd.Ty.mixed T_specIdxFunc_ok Tryd.func51 (nA := 2) (by decide +kernel) rfl (fun _ => rfl) ?_
  simp only [Tryd.f51, bodyOf, rlOf]
  rw [W_V]
  simp (config := {maxSteps := 2000000}) only [T_specIdxFunc, Go.Proofs.Tryd.Tgt.tb_specIdxF, go_sem, reduceIte, Nat.reduceEqDiff, Nat.reduceAdd, Nat.reduceMul, Nat.reduceDiv, Nat.reduceMod, Nat.reduceSub, Nat.reduceBEq, Nat.reduceLT, Nat.reduceLeDiff, reduceCtorEq, Int.reduceNeg, Int.reduceEq, String.reduceEq, Int.reduceLT, Int.reduceLE, Int.reduceToNat, Int.reduceAdd, Int.reduceMul, Int.reduceSub]
  (try simp (config := {maxSteps := 2000000}) only [gimp, impB, isT, go_sem, reduceIte, Nat.reduceEqDiff, Nat.reduceAdd, Nat.reduceMul, Nat.reduceDiv, Nat.reduceMod, Nat.reduceSub, Nat.reduceBEq, Nat.reduceLT, Nat.reduceLeDiff, reduceCtorEq, Int.reduceNeg, Int.reduceEq, String.reduceEq, Int.reduceLT, Int.reduceLE, Int.reduceToNat, Int.reduceAdd, Int.reduceMul, Int.reduceSub])
def tb_specIdxFunc : List Blk → List AV → Option (List Blk × AV × Prop)
  | [], [.str s, .clo 52 0 []] => some ([], .int .i64 (idxS (fun c => !stopB c) s), True)
  | _, _ => none
theorem tb_specIdxFunc_ok : ∀ E args E' res p, tb_specIdxFunc E args = some (E', res, p) → p → SpecE Tryd.prog 51 E args E' res := by
  intro E args E' res p h hp
  unfold tb_specIdxFunc at h
  split at h
  · simp only [Option.some.injEq, Prod.mk.injEq] at h
    obtain ⟨rfl, rfl, rfl⟩ := h
    exact (specIdxFunc _)
  · cases h

def T_specHosted : Tbl := fun g E args => (addT nilT 75 Go.Proofs.Tryd.Host.tb_specParse) g E args
theorem T_specHosted_ok : TblOK Tryd.prog T_specHosted := (addT_ok nilT_ok (by decide +kernel) Go.Proofs.Tryd.Host.tb_specParse_ok)
set_option maxRecDepth 100000 in
set_option maxHeartbeats 4000000 in
theorem specHosted (s : List UInt8) (hs : s.length ≤ 1000000) : SpecE Tryd.prog 49 [] [.str s] [] (.bool (hostedB s)) := by
  refine specF0 (C := T_specHosted) (wr := false) (D := fun _ => []) (U := fun _ => none) (res := [.bool (hostedB s)]) Tryd.Ty.mixed T_specHosted_ok Tryd.func49 (nA := 1) (by decide +kernel) rfl (fun _ => rfl) ?_
  simp only [Tryd.f49, bodyOf, rlOf]
  rw [W_V]
  simp (config := {maxSteps := 2000000}) only [T_specHosted, Go.Proofs.Tryd.Host.tb_specParse, go_sem, reduceIte, Nat.reduceEqDiff, Nat.reduceAdd, Nat.reduceMul, Nat.reduceDiv, Nat.reduceMod, Nat.reduceSub, Nat.reduceBEq, Nat.reduceLT, Nat.reduceLeDiff, reduceCtorEq, Int.reduceNeg, Int.reduceEq, String.reduceEq, Int.reduceLT, Int.reduceLE, Int.reduceToNat, Int.reduceAdd, Int.reduceMul, Int.reduceSub]
  (try simp (config := {maxSteps := 2000000}) only [gimp, impB, isT, go_sem, reduceIte, Nat.reduceEqDiff, Nat.reduceAdd, Nat.reduceMul, Nat.reduceDiv, Nat.reduceMod, Nat.reduceSub, Nat.reduceBEq, Nat.reduceLT, Nat.reduceLeDiff, reduceCtorEq, Int.reduceNeg, Int.reduceEq, String.reduceEq, Int.reduceLT, Int.reduceLE, Int.reduceToNat, Int.reduceAdd, Int.reduceMul, Int.reduceSub])
  exact ⟨hs, rfl⟩
def tb_specHosted : List Blk → List AV → Option (List Blk × AV × Prop)
  | [], [.str s] => some ([], .bool (hostedB s), (s.length ≤ 1000000))
  | _, _ => none
theorem tb_specHosted_ok : ∀ E args E' res p, tb_specHosted E args = some (E', res, p) → p → SpecE Tryd.prog 49 E args E' res := by
  intro E args E' res p h hp
  unfold tb_specHosted at h
  split at h
  · simp only [Option.some.injEq, Prod.mk.injEq] at h
    obtain ⟨rfl, rfl, rfl⟩ := h
    exact (specHosted _ hp)
  · cases h

def T_specConnect : Tbl := fun g E args => (addT (addT (addT nilT 47 Go.Proofs.Tryd.Trm.tb_specTrimRight) 48 Go.Proofs.Tryd.Tgt.tb_specHasSuffix1) 49 Go.Proofs.Tryd.Tgt.tb_specHosted) g E args
theorem T_specConnect_ok : TblOK Tryd.prog T_specConnect := (addT_ok (addT_ok (addT_ok nilT_ok (by decide +kernel) Go.Proofs.Tryd.Trm.tb_specTrimRight_ok) (by decide +kernel) Go.Proofs.Tryd.Tgt.tb_specHasSuffix1_ok) (by decide +kernel) Go.Proofs.Tryd.Tgt.tb_specHosted_ok)
set_option maxRecDepth 100000 in
set_option maxHeartbeats 4000000 in
theorem specConnect (s : List UInt8) (hs : s.length ≤ 1000000) (h0 : s ≠ []) : SpecE Tryd.prog 28 [] [.str s] [] (.tuple [.agg [.int .i64 3, .str s, .str []], .bool (conB s)]) := by
  refine specF0 (C := T_specConnect) (wr := false) (D := fun _ => []) (U := fun _ => none) (res := [.agg [.int .i64 3, .str s, .str []], .bool (conB s)]) Tryd.Ty.mixed T_specConnect_ok Tryd.func28 (nA := 1) (by decide +kernel) rfl (fun _ => rfl) ?_
  simp only [Tryd.f28, bodyOf, rlOf]
  rw [W_V]
  simp (config := {maxSteps := 2000000}) only [T_specConnect, Go.Proofs.Tryd.Trm.tb_specTrimRight, Go.Proofs.Tryd.Tgt.tb_specHasSuffix1, Go.Proofs.Tryd.Tgt.tb_specHosted, go_sem, reduceIte, Nat.reduceEqDiff, Nat.reduceAdd, Nat.reduceMul, Nat.reduceDiv, Nat.reduceMod, Nat.reduceSub, Nat.reduceBEq, Nat.reduceLT, Nat.reduceLeDiff, reduceCtorEq, Int.reduceNeg, Int.reduceEq, String.reduceEq, Int.reduceLT, Int.reduceLE, Int.reduceToNat, Int.reduceAdd, Int.reduceMul, Int.reduceSub]
  (try simp (config := {maxSteps := 2000000}) only [gimp, impB, isT, go_sem, reduceIte, Nat.reduceEqDiff, Nat.reduceAdd, Nat.reduceMul, Nat.reduceDiv, Nat.reduceMod, Nat.reduceSub, Nat.reduceBEq, Nat.reduceLT, Nat.reduceLeDiff, reduceCtorEq, Int.reduceNeg, Int.reduceEq, String.reduceEq, Int.reduceLT, Int.reduceLE, Int.reduceToNat, Int.reduceAdd, Int.reduceMul, Int.reduceSub])
  have hp := List.length_pos_iff.2 h0
  have hm : (1000000 : Nat) ≤ maxLen := by decide
  have hcl := cutR_len (fun x => decide (x = 48 ∨ x = 49 ∨ x = 50 ∨ x = 51 ∨ x = 52 ∨ x = 53 ∨ x = 54 ∨ x = 55 ∨ x = 56 ∨ x = 57)) s
  refine ⟨by omega, by omega, ⟨fun _ => by omega, fun _ => by omega⟩, ⟨fun _ => by omega, fun _ => by omega⟩, ⟨by decide, by omega⟩, fun _ _ => by omega, fun _ _ _ => hs, ?_⟩
  have e := con_eq s
  rw [← e]
  have e2 : (fun c => decide (c ∈ tgtDigs)) = fun x : UInt8 => decide (x = 48 ∨ x = 49 ∨ x = 50 ∨ x = 51 ∨ x = 52 ∨ x = 53 ∨ x = 54 ∨ x = 55 ∨ x = 56 ∨ x = 57) := by
    funext x; simp [tgtDigs]
  rw [e2, lastD, Bool.and_assoc]
  have e3 : ∀ k : Nat, decide ((48 : Int) ≤ ((k : Nat) : Int)) = decide (48 ≤ k) := fun k => decide_eq_decide.2 (by omega)
  have e4 : ∀ k : Nat, decide (((k : Nat) : Int) ≤ 57) = decide (k ≤ 57) := fun k => decide_eq_decide.2 (by omega)
  rw [e3, e4]
def tb_specConnect : List Blk → List AV → Option (List Blk × AV × Prop)
  | [], [.str s] => some ([], .tuple [.agg [.int .i64 3, .str s, .str []], .bool (conB s)], (s.length ≤ 1000000) ∧ (s ≠ []))
  | _, _ => none
theorem tb_specConnect_ok : ∀ E args E' res p, tb_specConnect E args = some (E', res, p) → p → SpecE Tryd.prog 28 E args E' res := by
  intro E args E' res p h hp
  unfold tb_specConnect at h
  split at h
  · simp only [Option.some.injEq, Prod.mk.injEq] at h
    obtain ⟨rfl, rfl, rfl⟩ := h
    exact (specConnect _ hp.1 hp.2)
  · cases h

def T_specAbsolute : Tbl := fun g E args => (addT (addT (addT nilT 50 Go.Proofs.Tryd.Oct.tb_specFold) 51 Go.Proofs.Tryd.Tgt.tb_specIdxFunc) 49 Go.Proofs.Tryd.Tgt.tb_specHosted) g E args
theorem T_specAbsolute_ok : TblOK Tryd.prog T_specAbsolute := (addT_ok (addT_ok (addT_ok nilT_ok (by decide +kernel) Go.Proofs.Tryd.Oct.tb_specFold_ok) (by decide +kernel) Go.Proofs.Tryd.Tgt.tb_specIdxFunc_ok) (by decide +kernel) Go.Proofs.Tryd.Tgt.tb_specHosted_ok)
set_option maxRecDepth 100000 in
set_option maxHeartbeats 4000000 in
theorem specAbsolute (s : List UInt8) (hs : s.length ≤ 1000000) : SpecE Tryd.prog 29 [] [.str s] [] (.tuple [.agg [.int .i64 (if absB0 s = true then 2 else 0), .str (if absB0 s = true then absAu s else []), .str (if absB0 s = true then absPa s else [])], .bool (absB s)]) := by
  refine specF0 (C := T_specAbsolute) (wr := false) (D := fun i => if i = 7 then [11] else []) (U := fun _ => none) (res := [.agg [.int .i64 (if absB0 s = true then 2 else 0), .str (if absB0 s = true then absAu s else []), .str (if absB0 s = true then absPa s else [])], .bool (absB s)]) Tryd.Ty.mixed T_specAbsolute_ok Tryd.func29 (nA := 1) (by decide +kernel) rfl (fun _ => rfl) ?_
  simp only [Tryd.f29, bodyOf, rlOf]
  rw [W_V]
  simp (config := {maxSteps := 2000000}) only [T_specAbsolute, Go.Proofs.Tryd.Oct.tb_specFold, Go.Proofs.Tryd.Tgt.tb_specIdxFunc, Go.Proofs.Tryd.Tgt.tb_specHosted, go_sem, reduceIte, Nat.reduceEqDiff, Nat.reduceAdd, Nat.reduceMul, Nat.reduceDiv, Nat.reduceMod, Nat.reduceSub, Nat.reduceBEq, Nat.reduceLT, Nat.reduceLeDiff, reduceCtorEq, Int.reduceNeg, Int.reduceEq, String.reduceEq, Int.reduceLT, Int.reduceLE, Int.reduceToNat, Int.reduceAdd, Int.reduceMul, Int.reduceSub]
  (try simp (config := {maxSteps := 2000000}) only [gimp, impB, isT, go_sem, reduceIte, Nat.reduceEqDiff, Nat.reduceAdd, Nat.reduceMul, Nat.reduceDiv, Nat.reduceMod, Nat.reduceSub, Nat.reduceBEq, Nat.reduceLT, Nat.reduceLeDiff, reduceCtorEq, Int.reduceNeg, Int.reduceEq, String.reduceEq, Int.reduceLT, Int.reduceLE, Int.reduceToNat, Int.reduceAdd, Int.reduceMul, Int.reduceSub])
  have hm : (1000000 : Nat) ≤ maxLen := by decide
  have h0 : foldS (s.take 7) [104, 116, 116, 112, 58, 47, 47] = foldS (s.take 7) tgtSch := rfl
  rw [h0]
  have hA : absAu s = (s.drop 7).take (absN (s.drop 7)) := rfl
  have hP : absPa s = (s.drop 7).drop (absN (s.drop 7)) := rfl
  have hN : absN (s.drop 7) = spanL (fun c => !stopB c) (s.drop 7) := rfl
  have hle := spanL_le (fun c => !stopB c) (s.drop 7)
  have hdl : (s.drop 7).length ≤ s.length := by simp
  have htk : ∀ (n : Nat) (l : List UInt8), (l.take n).length ≤ l.length := fun n l => by rw [List.length_take]; omega
  refine ⟨fun _ => by have := htk 7 s; omega, fun h => ?_, fun h1 h2 => ?_⟩
  · have e : absB0 s = false := by
      rw [absB0, Bool.and_eq_false_iff, decide_eq_false_iff_not]
      rcases h with h | h
      · exact .inl (by omega)
      · exact .inr h
    rw [absB, e]; exact ⟨rfl, rfl⟩
  · have e : absB0 s = true := by
      rw [absB0, h2, Bool.and_true, decide_eq_true_eq]; omega
    have e2 : absB s = hostedB (absAu s) := by rw [absB, e, Bool.true_and]
    rw [e2, if_pos e, if_pos e, if_pos e]
    by_cases hlt : spanL (fun c => !stopB c) (s.drop 7) < (s.drop 7).length
    · have e3 : idxS (fun c => !stopB c) (s.drop 7) = (absN (s.drop 7) : Int) := by rw [idxS, if_pos hlt, hN]
      rw [e3, Int.toNat_natCast, ← hA, ← hP]
      have := htk (absN (s.drop 7)) (s.drop 7)
      rw [← hA] at this
      exact ⟨by omega, fun h => by omega, fun _ => ⟨by omega, by omega, by omega, by omega, rfl, rfl⟩⟩
    · have e3 : idxS (fun c => !stopB c) (s.drop 7) = -1 := by rw [idxS, if_neg hlt]
      have e4 : (s.drop 7).length = absN (s.drop 7) := by rw [hN]; omega
      have := htk (s.drop 7).length (s.drop 7)
      rw [e3]
      refine ⟨by omega, fun _ => ⟨by omega, by omega, by omega, by omega, ?_, ?_⟩, fun h => by omega⟩
      · rw [e4, ← hA, ← hP]
      · rw [e4, ← hA]
def tb_specAbsolute : List Blk → List AV → Option (List Blk × AV × Prop)
  | [], [.str s] => some ([], .tuple [.agg [.int .i64 (if absB0 s = true then 2 else 0), .str (if absB0 s = true then absAu s else []), .str (if absB0 s = true then absPa s else [])], .bool (absB s)], (s.length ≤ 1000000))
  | _, _ => none
theorem tb_specAbsolute_ok : ∀ E args E' res p, tb_specAbsolute E args = some (E', res, p) → p → SpecE Tryd.prog 29 E args E' res := by
  intro E args E' res p h hp
  unfold tb_specAbsolute at h
  split at h
  · simp only [Option.some.injEq, Prod.mk.injEq] at h
    obtain ⟨rfl, rfl, rfl⟩ := h
    exact (specAbsolute _ hp)
  · cases h

def tgz : AV := .agg [.int .i64 0, .str [], .str []]

def T_specTryC : Tbl := fun g E args => (addT nilT 28 Go.Proofs.Tryd.Tgt.tb_specConnect) g E args
theorem T_specTryC_ok : TblOK Tryd.prog T_specTryC := (addT_ok nilT_ok (by decide +kernel) Go.Proofs.Tryd.Tgt.tb_specConnect_ok)
set_option maxRecDepth 100000 in
set_option maxHeartbeats 4000000 in
theorem specTryC (ok : Bool) (s a p : List UInt8) (f : Int) (hs : s.length ≤ 1000000) (h0 : s ≠ []) : SpecE Tryd.prog 27 [.cells 1 false (.bool false) [.bool ok], .cells 1 false (.str []) [.str s], .cells 3 false tgz [.agg [.int .i64 f, .str a, .str p]]] [.clo 28 0 [], .ptr 0 0 0 1, .ptr 1 0 0 1, .ptr 2 0 0 1] [.cells 1 false (.bool false) [.bool (ok && conB s)], .cells 1 false (.str []) [.str s], .cells 3 false tgz [.agg [.int .i64 (bif ok then 3 else f), .str (bif ok then s else a), .str (bif ok then [] else p)]]] (.tuple []) := by
  refine specFE (C := T_specTryC) (wr := false) (D := fun i => if i = 1 then [6, 7] else []) (U := fun _ => none) (E := [.cells 1 false (.bool false) [.bool ok], .cells 1 false (.str []) [.str s], .cells 3 false tgz [.agg [.int .i64 f, .str a, .str p]]]) (E' := [.cells 1 false (.bool false) [.bool (ok && conB s)], .cells 1 false (.str []) [.str s], .cells 3 false tgz [.agg [.int .i64 (bif ok then 3 else f), .str (bif ok then s else a), .str (bif ok then [] else p)]]]) (res := []) [] Tryd.Ty.mixed T_specTryC_ok Tryd.func27 (args := [.clo 28 0 [], .ptr 0 0 0 1, .ptr 1 0 0 1, .ptr 2 0 0 1]) (nE := 3) (nA := 4) (by decide +kernel) rfl rfl ?_
  simp only [Tryd.f27, bodyOf, rlOf]
  rw [W_V]
  simp (config := {maxSteps := 2000000}) only [T_specTryC, Go.Proofs.Tryd.Tgt.tb_specConnect, go_sem, reduceIte, Nat.reduceEqDiff, Nat.reduceAdd, Nat.reduceMul, Nat.reduceDiv, Nat.reduceMod, Nat.reduceSub, Nat.reduceBEq, Nat.reduceLT, Nat.reduceLeDiff, reduceCtorEq, Int.reduceNeg, Int.reduceEq, String.reduceEq, Int.reduceLT, Int.reduceLE, Int.reduceToNat, Int.reduceAdd, Int.reduceMul, Int.reduceSub, tgz]
  (try simp (config := {maxSteps := 2000000}) only [gimp, impB, isT, go_sem, reduceIte, Nat.reduceEqDiff, Nat.reduceAdd, Nat.reduceMul, Nat.reduceDiv, Nat.reduceMod, Nat.reduceSub, Nat.reduceBEq, Nat.reduceLT, Nat.reduceLeDiff, reduceCtorEq, Int.reduceNeg, Int.reduceEq, String.reduceEq, Int.reduceLT, Int.reduceLE, Int.reduceToNat, Int.reduceAdd, Int.reduceMul, Int.reduceSub])
  cases ok <;> exact ⟨fun h => by first | (cases h; done) | exact ⟨⟨hs, h0⟩, ⟨rfl, rfl⟩, rfl, rfl⟩, fun h => by first | (cases h; done) | exact ⟨⟨rfl, rfl⟩, rfl, rfl⟩⟩
def T_specTryA : Tbl := fun g E args => (addT nilT 29 Go.Proofs.Tryd.Tgt.tb_specAbsolute) g E args
theorem T_specTryA_ok : TblOK Tryd.prog T_specTryA := (addT_ok nilT_ok (by decide +kernel) Go.Proofs.Tryd.Tgt.tb_specAbsolute_ok)
set_option maxRecDepth 100000 in
set_option maxHeartbeats 4000000 in
theorem specTryA (ok : Bool) (s a p : List UInt8) (f : Int) (hs : s.length ≤ 1000000) : SpecE Tryd.prog 27 [.cells 1 false (.bool false) [.bool ok], .cells 1 false (.str []) [.str s], .cells 3 false tgz [.agg [.int .i64 f, .str a, .str p]]] [.clo 29 0 [], .ptr 0 0 0 1, .ptr 1 0 0 1, .ptr 2 0 0 1] [.cells 1 false (.bool false) [.bool (ok && absB s)], .cells 1 false (.str []) [.str s], .cells 3 false tgz [.agg [.int .i64 (bif ok then (if absB0 s = true then 2 else 0) else f), .str (bif ok then (if absB0 s = true then absAu s else []) else a), .str (bif ok then (if absB0 s = true then absPa s else []) else p)]]] (.tuple []) := by
  refine specFE (C := T_specTryA) (wr := false) (D := fun i => if i = 1 then [6, 7] else []) (U := fun _ => none) (E := [.cells 1 false (.bool false) [.bool ok], .cells 1 false (.str []) [.str s], .cells 3 false tgz [.agg [.int .i64 f, .str a, .str p]]]) (E' := [.cells 1 false (.bool false) [.bool (ok && absB s)], .cells 1 false (.str []) [.str s], .cells 3 false tgz [.agg [.int .i64 (bif ok then (if absB0 s = true then 2 else 0) else f), .str (bif ok then (if absB0 s = true then absAu s else []) else a), .str (bif ok then (if absB0 s = true then absPa s else []) else p)]]]) (res := []) [] Tryd.Ty.mixed T_specTryA_ok Tryd.func27 (args := [.clo 29 0 [], .ptr 0 0 0 1, .ptr 1 0 0 1, .ptr 2 0 0 1]) (nE := 3) (nA := 4) (by decide +kernel) rfl rfl ?_
  simp only [Tryd.f27, bodyOf, rlOf]
  rw [W_V]
  simp (config := {maxSteps := 2000000}) only [T_specTryA, Go.Proofs.Tryd.Tgt.tb_specAbsolute, go_sem, reduceIte, Nat.reduceEqDiff, Nat.reduceAdd, Nat.reduceMul, Nat.reduceDiv, Nat.reduceMod, Nat.reduceSub, Nat.reduceBEq, Nat.reduceLT, Nat.reduceLeDiff, reduceCtorEq, Int.reduceNeg, Int.reduceEq, String.reduceEq, Int.reduceLT, Int.reduceLE, Int.reduceToNat, Int.reduceAdd, Int.reduceMul, Int.reduceSub, tgz]
  (try simp (config := {maxSteps := 2000000}) only [gimp, impB, isT, go_sem, reduceIte, Nat.reduceEqDiff, Nat.reduceAdd, Nat.reduceMul, Nat.reduceDiv, Nat.reduceMod, Nat.reduceSub, Nat.reduceBEq, Nat.reduceLT, Nat.reduceLeDiff, reduceCtorEq, Int.reduceNeg, Int.reduceEq, String.reduceEq, Int.reduceLT, Int.reduceLE, Int.reduceToNat, Int.reduceAdd, Int.reduceMul, Int.reduceSub])
  cases ok <;> exact ⟨fun h => by first | (cases h; done) | exact ⟨hs, ⟨rfl, rfl⟩, rfl, rfl⟩, fun h => by first | (cases h; done) | exact ⟨⟨rfl, rfl⟩, rfl, rfl⟩⟩
def tb_specTry : List Blk → List AV → Option (List Blk × AV × Prop)
  | [.cells 1 false d0 [.bool ok], .cells 1 false d1 [.str s], .cells 3 false d2 [.agg [.int .i64 f, .str a, .str p]]], [.clo 28 0 [], .ptr 0 0 0 1, .ptr 1 0 0 1, .ptr 2 0 0 1] =>
      some ([.cells 1 false (.bool false) [.bool (ok && conB s)], .cells 1 false (.str []) [.str s], .cells 3 false tgz [.agg [.int .i64 (bif ok then 3 else f), .str (bif ok then s else a), .str (bif ok then [] else p)]]], .tuple [],
        d0 = .bool false ∧ d1 = .str [] ∧ d2 = tgz ∧ s.length ≤ 1000000 ∧ s ≠ [])
  | [.cells 1 false d0 [.bool ok], .cells 1 false d1 [.str s], .cells 3 false d2 [.agg [.int .i64 f, .str a, .str p]]], [.clo 29 0 [], .ptr 0 0 0 1, .ptr 1 0 0 1, .ptr 2 0 0 1] =>
      some ([.cells 1 false (.bool false) [.bool (ok && absB s)], .cells 1 false (.str []) [.str s], .cells 3 false tgz [.agg [.int .i64 (bif ok then (if absB0 s = true then 2 else 0) else f), .str (bif ok then (if absB0 s = true then absAu s else []) else a), .str (bif ok then (if absB0 s = true then absPa s else []) else p)]]], .tuple [],
        d0 = .bool false ∧ d1 = .str [] ∧ d2 = tgz ∧ s.length ≤ 1000000)
  | _, _ => none
theorem tb_specTry_ok : ∀ E args E' res q, tb_specTry E args = some (E', res, q) → q → SpecE Tryd.prog 27 E args E' res := by
  intro E args E' res q h hq
  unfold tb_specTry at h
  split at h
  · rename_i d0 ok d1 s d2 f a p
    simp only [Option.some.injEq, Prod.mk.injEq] at h
    obtain ⟨rfl, rfl, rfl⟩ := h
    obtain ⟨rfl, rfl, rfl, h1, h2⟩ := hq
    exact specTryC ok s a p f h1 h2
  · rename_i d0 ok d1 s d2 f a p
    simp only [Option.some.injEq, Prod.mk.injEq] at h
    obtain ⟨rfl, rfl, rfl⟩ := h
    obtain ⟨rfl, rfl, rfl, h1⟩ := hq
    exact specTryA ok s a p f h1
  · cases h

def T_specParse : Tbl := fun g E args => (addT (addT (addT nilT 25 Go.Proofs.Tryd.Tgt.tb_specVisible) 26 Go.Proofs.Tryd.Tgt.tb_specContains) 27 Go.Proofs.Tryd.Tgt.tb_specTry) g E args
theorem T_specParse_ok : TblOK Tryd.prog T_specParse := (addT_ok (addT_ok (addT_ok nilT_ok (by decide +kernel) Go.Proofs.Tryd.Tgt.tb_specVisible_ok) (by decide +kernel) Go.Proofs.Tryd.Tgt.tb_specContains_ok) (by decide +kernel) Go.Proofs.Tryd.Tgt.tb_specTry_ok)
set_option maxRecDepth 100000 in
set_option maxHeartbeats 4000000 in
theorem specParse (m s : List UInt8) (hs : s.length ≤ 1000000) : SpecE Tryd.prog 10 [] [.str m, .str s] [] (.tuple [.agg [.int .i64 (tgtForm m s), .str (tgtAu m s), .str (tgtPa m s)], .int .i64 (tgtErr m s)]) := by
  refine specF0 (C := T_specParse) (wr := false) (D := fun _ => []) (U := fun _ => none) (res := [.agg [.int .i64 (tgtForm m s), .str (tgtAu m s), .str (tgtPa m s)], .int .i64 (tgtErr m s)]) Tryd.Ty.mixed T_specParse_ok Tryd.func10 (nA := 2) (by decide +kernel) rfl (fun _ => rfl) ?_
  simp only [Tryd.f10, bodyOf, rlOf]
  rw [W_V]
  simp (config := {maxSteps := 2000000}) only [T_specParse, Go.Proofs.Tryd.Tgt.tb_specVisible, Go.Proofs.Tryd.Tgt.tb_specContains, Go.Proofs.Tryd.Tgt.tb_specTry, go_sem, reduceIte, Nat.reduceEqDiff, Nat.reduceAdd, Nat.reduceMul, Nat.reduceDiv, Nat.reduceMod, Nat.reduceSub, Nat.reduceBEq, Nat.reduceLT, Nat.reduceLeDiff, reduceCtorEq, Int.reduceNeg, Int.reduceEq, String.reduceEq, Int.reduceLT, Int.reduceLE, Int.reduceToNat, Int.reduceAdd, Int.reduceMul, Int.reduceSub, tgz]
  (try simp (config := {maxSteps := 2000000}) only [gimp, impB, isT, go_sem, reduceIte, Nat.reduceEqDiff, Nat.reduceAdd, Nat.reduceMul, Nat.reduceDiv, Nat.reduceMod, Nat.reduceSub, Nat.reduceBEq, Nat.reduceLT, Nat.reduceLeDiff, reduceCtorEq, Int.reduceNeg, Int.reduceEq, String.reduceEq, Int.reduceLT, Int.reduceLE, Int.reduceToNat, Int.reduceAdd, Int.reduceMul, Int.reduceSub])
  have hm : (1000000 : Nat) ≤ maxLen := by decide
  rw [idxB_mem, idxB_neg]
  have hs0 : (visS s && !decide (35 ∈ s)) = tgtSee s := rfl
  have hs1 : visS s = true → 35 ∉ s → tgtSee s = true := fun h1 h2 => by rw [← hs0, h1, decide_eq_false h2]; rfl
  rw [hs0]
  have hc : ([67, 79, 78, 78, 69, 67, 84] : List UInt8) = tgtCon := rfl
  have hop : ([79, 80, 84, 73, 79, 78, 83] : List UInt8) = tgtOpt := rfl
  rw [hc, hop]
  refine ⟨fun h => ?_, fun h0 => ⟨fun _ => by omega, fun h => ?_, fun h => ⟨by have := List.length_pos_iff.2 h0; omega, fun h1 => ⟨fun h2 => ?_, fun h2 h3 => ?_⟩, fun h1 => ⟨fun h4 => ⟨fun h2 => ?_, fun h2 h3 h5 => ?_⟩, fun h4 => ⟨hs, fun h2 => ?_, fun h2 h3 h5 => ?_⟩⟩⟩⟩⟩
  · subst h
    have e : tgtForm m [] = 0 := form_no rfl
    rw [tgtAu, tgtPa, tgtErr, e]; exact ⟨rfl, rfl⟩
  · refine ⟨⟨hs, h0⟩, fun h2 => ?_, fun h2 h3 h4 => ?_⟩
    · have e : tgtForm m s = 0 := by
        rw [Bool.and_eq_false_iff] at h2
        rcases h2 with h2 | h2
        · exact form_no h2
        · cases hh : tgtSee s with
          | false => exact form_no hh
          | true => rw [h, form_con hh, h2]; rfl
      obtain ⟨a, b⟩ := tg_ok h0 e
      rw [a, b]; exact ⟨rfl, rfl⟩
    · have hh := hs1 h2 h3
      have e : tgtForm m s = 3 := by rw [h, form_con hh, if_pos h4]
      obtain ⟨a, b⟩ := tg_ok h0 e
      rw [a, b, hh]; exact ⟨rfl, rfl⟩
  · obtain ⟨a, b⟩ := tg_ok (m := m) h0 (form_no h2)
    rw [a, b]; exact ⟨rfl, rfl⟩
  · obtain ⟨a, b⟩ := tg_ok h0 (form_org (hs1 h2 h3) h h1)
    rw [a, b]; exact ⟨rfl, rfl⟩
  · have e : tgtForm m s = 0 := by
      rw [Bool.and_eq_false_iff, decide_eq_false_iff_not] at h2
      rcases h2 with h2 | h2
      · exact form_no h2
      · rw [h4, form_ast h, if_neg h2]
    obtain ⟨a, b⟩ := tg_ok h0 e
    rw [a, b]; exact ⟨rfl, rfl⟩
  · have e : tgtForm m s = 4 := by rw [h4, form_ast h, if_pos h5]
    obtain ⟨a, b⟩ := tg_ok h0 e
    rw [a, b]; exact ⟨rfl, rfl⟩
  · have e : tgtForm m s = 0 := by
      rw [Bool.and_eq_false_iff] at h2
      rcases h2 with h2 | h2
      · exact form_no h2
      · cases hh : tgtSee s with
        | false => exact form_no hh
        | true => rw [form_abs hh h h1 h4, h2]; rfl
    obtain ⟨a, b⟩ := tg_ok h0 e
    rw [a, b]; exact ⟨rfl, rfl⟩
  · have hh := hs1 h2 h3
    have e : tgtForm m s = 2 := by rw [form_abs hh h h1 h4, if_pos h5]
    have e0 : absB0 s = true := by rw [absB, Bool.and_eq_true] at h5; exact h5.1
    obtain ⟨a, b⟩ := tg_ok h0 e
    rw [a, b, hh, if_pos e0, if_pos e0, if_pos e0]; exact ⟨rfl, rfl⟩
def tb_specParse : List Blk → List AV → Option (List Blk × AV × Prop)
  | [], [.str m, .str s] => some ([], .tuple [.agg [.int .i64 (tgtForm m s), .str (tgtAu m s), .str (tgtPa m s)], .int .i64 (tgtErr m s)], (s.length ≤ 1000000))
  | _, _ => none
theorem tb_specParse_ok : ∀ E args E' res p, tb_specParse E args = some (E', res, p) → p → SpecE Tryd.prog 10 E args E' res := by
  intro E args E' res p h hp
  unfold tb_specParse at h
  split at h
  · simp only [Option.some.injEq, Prod.mk.injEq] at h
    obtain ⟨rfl, rfl, rfl⟩ := h
    exact (specParse _ _ hp)
  · cases h

def T_specText : Tbl := fun g E args => nilT g E args
theorem T_specText_ok : TblOK Tryd.prog T_specText := nilT_ok
set_option maxRecDepth 100000 in
set_option maxHeartbeats 4000000 in
theorem specText (f : Int) (a p : List UInt8) (ha : a.length ≤ 1000000) (hp : p.length ≤ 1000000) : SpecE Tryd.prog 13 [] [.agg [.int .i64 f, .str a, .str p]] [] (.str (tgtText f a p)) := by
  refine specF0 (C := T_specText) (wr := false) (D := fun _ => []) (U := fun _ => none) (res := [.str (tgtText f a p)]) Tryd.Ty.mixed T_specText_ok Tryd.func13 (nA := 1) (by decide +kernel) rfl (fun _ => rfl) ?_
  simp only [Tryd.f13, bodyOf, rlOf]
  rw [W_V]
  simp (config := {maxSteps := 2000000}) only [T_specText, go_sem, reduceIte, Nat.reduceEqDiff, Nat.reduceAdd, Nat.reduceMul, Nat.reduceDiv, Nat.reduceMod, Nat.reduceSub, Nat.reduceBEq, Nat.reduceLT, Nat.reduceLeDiff, reduceCtorEq, Int.reduceNeg, Int.reduceEq, String.reduceEq, Int.reduceLT, Int.reduceLE, Int.reduceToNat, Int.reduceAdd, Int.reduceMul, Int.reduceSub]
  (try simp (config := {maxSteps := 2000000}) only [gimp, impB, isT, go_sem, reduceIte, Nat.reduceEqDiff, Nat.reduceAdd, Nat.reduceMul, Nat.reduceDiv, Nat.reduceMod, Nat.reduceSub, Nat.reduceBEq, Nat.reduceLT, Nat.reduceLeDiff, reduceCtorEq, Int.reduceNeg, Int.reduceEq, String.reduceEq, Int.reduceLT, Int.reduceLE, Int.reduceToNat, Int.reduceAdd, Int.reduceMul, Int.reduceSub])
  have e : ∀ g : Int, g = f → tgtText f a p = tgtText g a p := fun g h => by rw [h]
  refine ⟨fun h => by rw [h]; rfl, fun h1 => ⟨fun h => ⟨by omega, by omega, by rw [h]; simp [tgtText, tgtSch]⟩, fun h2 => ⟨fun h => by rw [h]; rfl, fun h3 => ⟨fun h => by rw [h]; rfl, fun h4 => by rw [tgtText, if_neg h1, if_neg h2, if_neg h3, if_neg h4]⟩⟩⟩⟩
def tb_specText : List Blk → List AV → Option (List Blk × AV × Prop)
  | [], [.agg [.int .i64 f, .str a, .str p]] => some ([], .str (tgtText f a p), (a.length ≤ 1000000) ∧ (p.length ≤ 1000000))
  | _, _ => none
theorem tb_specText_ok : ∀ E args E' res p, tb_specText E args = some (E', res, p) → p → SpecE Tryd.prog 13 E args E' res := by
  intro E args E' res p h hp
  unfold tb_specText at h
  split at h
  · simp only [Option.some.injEq, Prod.mk.injEq] at h
    obtain ⟨rfl, rfl, rfl⟩ := h
    exact (specText _ _ _ hp.1 hp.2)
  · cases h
def T_specTextR : Tbl := fun g E args => nilT g E args
theorem T_specTextR_ok : TblOK Tryd.prog T_specTextR := nilT_ok
set_option maxRecDepth 100000 in
set_option maxHeartbeats 4000000 in
theorem specTextR (f : Int) (a p : List UInt8) (ha : a.length ≤ 1000000) (hp : p.length ≤ 1000000) : SpecE Tryd.prog 14 [] [.agg [.int .i64 f, .str a, .str p]] [] (.str (tgtText f a p)) := by
  refine specF0 (C := T_specTextR) (wr := false) (D := fun _ => []) (U := fun _ => none) (res := [.str (tgtText f a p)]) Tryd.Ty.mixed T_specTextR_ok Tryd.func14 (nA := 1) (by decide +kernel) rfl (fun _ => rfl) ?_
  simp only [Tryd.f14, bodyOf, rlOf]
  rw [W_V]
  simp (config := {maxSteps := 2000000}) only [T_specTextR, go_sem, reduceIte, Nat.reduceEqDiff, Nat.reduceAdd, Nat.reduceMul, Nat.reduceDiv, Nat.reduceMod, Nat.reduceSub, Nat.reduceBEq, Nat.reduceLT, Nat.reduceLeDiff, reduceCtorEq, Int.reduceNeg, Int.reduceEq, String.reduceEq, Int.reduceLT, Int.reduceLE, Int.reduceToNat, Int.reduceAdd, Int.reduceMul, Int.reduceSub]
  (try simp (config := {maxSteps := 2000000}) only [gimp, impB, isT, go_sem, reduceIte, Nat.reduceEqDiff, Nat.reduceAdd, Nat.reduceMul, Nat.reduceDiv, Nat.reduceMod, Nat.reduceSub, Nat.reduceBEq, Nat.reduceLT, Nat.reduceLeDiff, reduceCtorEq, Int.reduceNeg, Int.reduceEq, String.reduceEq, Int.reduceLT, Int.reduceLE, Int.reduceToNat, Int.reduceAdd, Int.reduceMul, Int.reduceSub])
  have e : ∀ g : Int, g = f → tgtText f a p = tgtText g a p := fun g h => by rw [h]
  refine ⟨fun h => by rw [h]; rfl, fun h1 => ⟨fun h => ⟨by omega, by omega, by rw [h]; simp [tgtText, tgtSch]⟩, fun h2 => ⟨fun h => by rw [h]; rfl, fun h3 => ⟨fun h => by rw [h]; rfl, fun h4 => by rw [tgtText, if_neg h1, if_neg h2, if_neg h3, if_neg h4]⟩⟩⟩⟩
def tb_specTextR : List Blk → List AV → Option (List Blk × AV × Prop)
  | [], [.agg [.int .i64 f, .str a, .str p]] => some ([], .str (tgtText f a p), (a.length ≤ 1000000) ∧ (p.length ≤ 1000000))
  | _, _ => none
theorem tb_specTextR_ok : ∀ E args E' res p, tb_specTextR E args = some (E', res, p) → p → SpecE Tryd.prog 14 E args E' res := by
  intro E args E' res p h hp
  unfold tb_specTextR at h
  split at h
  · simp only [Option.some.injEq, Prod.mk.injEq] at h
    obtain ⟨rfl, rfl, rfl⟩ := h
    exact (specTextR _ _ _ hp.1 hp.2)
  · cases h
def T_specOut : Tbl := fun g E args => (addT (addT nilT 13 Go.Proofs.Tryd.Tgt.tb_specText) 34 Go.Proofs.Tryd.Lib.tb_specHasPrefix) g E args
theorem T_specOut_ok : TblOK Tryd.prog T_specOut := (addT_ok (addT_ok nilT_ok (by decide +kernel) Go.Proofs.Tryd.Tgt.tb_specText_ok) (by decide +kernel) Go.Proofs.Tryd.Lib.tb_specHasPrefix_ok)
set_option maxRecDepth 100000 in
set_option maxHeartbeats 4000000 in
theorem specOut (m : List UInt8) (f : Int) (a p : List UInt8) (ha : a.length ≤ 1000000) (hp : p.length ≤ 1000000) : SpecE Tryd.prog 15 [] [.str m, .agg [.int .i64 f, .str a, .str p]] [] (.str (tgtOut m f a p)) := by
  refine specF0 (C := T_specOut) (wr := false) (D := fun _ => []) (U := fun _ => none) (res := [.str (tgtOut m f a p)]) Tryd.Ty.mixed T_specOut_ok Tryd.func15 (nA := 2) (by decide +kernel) rfl (fun _ => rfl) ?_
  simp only [Tryd.f15, bodyOf, rlOf]
  rw [W_V]
  simp (config := {maxSteps := 2000000}) only [T_specOut, Go.Proofs.Tryd.Tgt.tb_specText, Go.Proofs.Tryd.Lib.tb_specHasPrefix, go_sem, reduceIte, Nat.reduceEqDiff, Nat.reduceAdd, Nat.reduceMul, Nat.reduceDiv, Nat.reduceMod, Nat.reduceSub, Nat.reduceBEq, Nat.reduceLT, Nat.reduceLeDiff, reduceCtorEq, Int.reduceNeg, Int.reduceEq, String.reduceEq, Int.reduceLT, Int.reduceLE, Int.reduceToNat, Int.reduceAdd, Int.reduceMul, Int.reduceSub]
  (try simp (config := {maxSteps := 2000000}) only [gimp, impB, isT, go_sem, reduceIte, Nat.reduceEqDiff, Nat.reduceAdd, Nat.reduceMul, Nat.reduceDiv, Nat.reduceMod, Nat.reduceSub, Nat.reduceBEq, Nat.reduceLT, Nat.reduceLeDiff, reduceCtorEq, Int.reduceNeg, Int.reduceEq, String.reduceEq, Int.reduceLT, Int.reduceLE, Int.reduceToNat, Int.reduceAdd, Int.reduceMul, Int.reduceSub])
  have hop : ([79, 80, 84, 73, 79, 78, 83] : List UInt8) = tgtOpt := rfl
  rw [hop]
  have hpre : Lib.hasPrefix p [47] = decide (p.getD 0 0 = 47) := by
    rcases p with _ | ⟨c, r⟩
    · rfl
    · by_cases e : c = 47
      · subst e; rfl
      · simp [Lib.hasPrefix, List.isPrefixOf, e, Ne.symm e]
  rw [hpre]
  refine ⟨fun h => ⟨⟨ha, hp⟩, by rw [tgtOut, if_neg h]⟩, fun h => ⟨fun h1 h2 => by rw [tgtOut, if_pos h, if_pos ⟨h1, h2⟩], fun h1 => ?_⟩⟩
  have hn : ¬ (p = [] ∧ m = tgtOpt) := by
    rintro ⟨g1, g2⟩
    rw [decide_eq_true g1, decide_eq_true g2] at h1; cases h1
  refine ⟨fun h2 => ?_, fun h2 => ⟨by omega, ?_⟩⟩
  · rw [tgtOut, if_pos h, if_neg hn, if_pos (by simpa using h2)]
  · rw [tgtOut, if_pos h, if_neg hn, if_neg (by simpa using h2)]
def tb_specOut : List Blk → List AV → Option (List Blk × AV × Prop)
  | [], [.str m, .agg [.int .i64 f, .str a, .str p]] => some ([], .str (tgtOut m f a p), (a.length ≤ 1000000) ∧ (p.length ≤ 1000000))
  | _, _ => none
theorem tb_specOut_ok : ∀ E args E' res p, tb_specOut E args = some (E', res, p) → p → SpecE Tryd.prog 15 E args E' res := by
  intro E args E' res p h hp
  unfold tb_specOut at h
  split at h
  · simp only [Option.some.injEq, Prod.mk.injEq] at h
    obtain ⟨rfl, rfl, rfl⟩ := h
    exact (specOut _ _ _ _ hp.1 hp.2)
  · cases h
def T_specOutR : Tbl := fun g E args => (addT nilT 14 Go.Proofs.Tryd.Tgt.tb_specTextR) g E args
theorem T_specOutR_ok : TblOK Tryd.prog T_specOutR := (addT_ok nilT_ok (by decide +kernel) Go.Proofs.Tryd.Tgt.tb_specTextR_ok)
set_option maxRecDepth 100000 in
set_option maxHeartbeats 4000000 in
theorem specOutR (m : List UInt8) (f : Int) (a p : List UInt8) (ha : a.length ≤ 1000000) (hp : p.length ≤ 1000000) : SpecE Tryd.prog 16 [] [.str m, .agg [.int .i64 f, .str a, .str p]] [] (.str (tgtOut m f a p)) := by
  refine specF0 (C := T_specOutR) (wr := false) (D := fun _ => []) (U := fun _ => none) (res := [.str (tgtOut m f a p)]) Tryd.Ty.mixed T_specOutR_ok Tryd.func16 (nA := 2) (by decide +kernel) rfl (fun _ => rfl) ?_
  simp only [Tryd.f16, bodyOf, rlOf]
  rw [W_V]
  simp (config := {maxSteps := 2000000}) only [T_specOutR, Go.Proofs.Tryd.Tgt.tb_specTextR, go_sem, reduceIte, Nat.reduceEqDiff, Nat.reduceAdd, Nat.reduceMul, Nat.reduceDiv, Nat.reduceMod, Nat.reduceSub, Nat.reduceBEq, Nat.reduceLT, Nat.reduceLeDiff, reduceCtorEq, Int.reduceNeg, Int.reduceEq, String.reduceEq, Int.reduceLT, Int.reduceLE, Int.reduceToNat, Int.reduceAdd, Int.reduceMul, Int.reduceSub]
  (try simp (config := {maxSteps := 2000000}) only [gimp, impB, isT, go_sem, reduceIte, Nat.reduceEqDiff, Nat.reduceAdd, Nat.reduceMul, Nat.reduceDiv, Nat.reduceMod, Nat.reduceSub, Nat.reduceBEq, Nat.reduceLT, Nat.reduceLeDiff, reduceCtorEq, Int.reduceNeg, Int.reduceEq, String.reduceEq, Int.reduceLT, Int.reduceLE, Int.reduceToNat, Int.reduceAdd, Int.reduceMul, Int.reduceSub])
  have hop : ([79, 80, 84, 73, 79, 78, 83] : List UInt8) = tgtOpt := rfl
  rw [hop]
  refine ⟨fun h => ⟨⟨ha, hp⟩, by rw [tgtOut, if_neg h]⟩, fun h => ⟨fun h1 h2 => by rw [tgtOut, if_pos h, if_pos ⟨h1, h2⟩], fun h1 => ?_⟩⟩
  have hn : ¬ (p = [] ∧ m = tgtOpt) := by
    rintro ⟨g1, g2⟩
    rw [decide_eq_true g1, decide_eq_true g2] at h1; cases h1
  refine ⟨fun h2 => by have := List.length_pos_iff.2 h2; omega, fun h2 => ⟨by omega, ?_⟩, fun h2 h3 => ?_⟩
  · rw [tgtOut, if_pos h, if_neg hn, if_neg]
    rcases h2 with h2 | h2
    · rw [h2]; decide
    · exact h2
  · rw [tgtOut, if_pos h, if_neg hn, if_pos h3]
def tb_specOutR : List Blk → List AV → Option (List Blk × AV × Prop)
  | [], [.str m, .agg [.int .i64 f, .str a, .str p]] => some ([], .str (tgtOut m f a p), (a.length ≤ 1000000) ∧ (p.length ≤ 1000000))
  | _, _ => none
theorem tb_specOutR_ok : ∀ E args E' res p, tb_specOutR E args = some (E', res, p) → p → SpecE Tryd.prog 16 E args E' res := by
  intro E args E' res p h hp
  unfold tb_specOutR at h
  split at h
  · simp only [Option.some.injEq, Prod.mk.injEq] at h
    obtain ⟨rfl, rfl, rfl⟩ := h
    exact (specOutR _ _ _ _ hp.1 hp.2)
  · cases h
def T_specParseR : Tbl := fun g E args => (addT (addT (addT (addT nilT 30 Go.Proofs.Tryd.Tgt.tb_specVisibleR) 31 Go.Proofs.Tryd.Host.tb_specNameR) 32 Go.Proofs.Tryd.Host.tb_specParseR) 33 Go.Proofs.Tryd.Oct.tb_specLowerR) g E args
theorem T_specParseR_ok : TblOK Tryd.prog T_specParseR := (addT_ok (addT_ok (addT_ok (addT_ok nilT_ok (by decide +kernel) Go.Proofs.Tryd.Tgt.tb_specVisibleR_ok) (by decide +kernel) Go.Proofs.Tryd.Host.tb_specNameR_ok) (by decide +kernel) Go.Proofs.Tryd.Host.tb_specParseR_ok) (by decide +kernel) Go.Proofs.Tryd.Oct.tb_specLowerR_ok)
set_option maxRecDepth 100000 in
set_option maxHeartbeats 4000000 in
theorem specParseR (m s : List UInt8) (hs : s.length ≤ 1000000) : SpecE Tryd.prog 11 [] [.str m, .str s] [] (.tuple [.agg [.int .i64 (tgtForm m s), .str (tgtAu m s), .str (tgtPa m s)], .int .i64 (tgtErr m s)]) := by
  refine specF0 (C := T_specParseR) (wr := false) (D := fun i => if i = 28 then [7] else []) (U := fun _ => none) (res := [.agg [.int .i64 (tgtForm m s), .str (tgtAu m s), .str (tgtPa m s)], .int .i64 (tgtErr m s)]) Tryd.Ty.mixed T_specParseR_ok Tryd.func11 (nA := 2) (by decide +kernel) rfl (fun _ => rfl) ?_
  simp only [Tryd.f11, bodyOf, rlOf]
  rw [W_V]
  simp (config := {maxSteps := 2000000}) only [T_specParseR, Go.Proofs.Tryd.Tgt.tb_specVisibleR, Go.Proofs.Tryd.Host.tb_specNameR, Go.Proofs.Tryd.Host.tb_specParseR, Go.Proofs.Tryd.Oct.tb_specLowerR, go_sem, reduceIte, Nat.reduceEqDiff, Nat.reduceAdd, Nat.reduceMul, Nat.reduceDiv, Nat.reduceMod, Nat.reduceSub, Nat.reduceBEq, Nat.reduceLT, Nat.reduceLeDiff, reduceCtorEq, Int.reduceNeg, Int.reduceEq, String.reduceEq, Int.reduceLT, Int.reduceLE, Int.reduceToNat, Int.reduceAdd, Int.reduceMul, Int.reduceSub]
  (try simp (config := {maxSteps := 2000000}) only [gimp, impB, isT, go_sem, reduceIte, Nat.reduceEqDiff, Nat.reduceAdd, Nat.reduceMul, Nat.reduceDiv, Nat.reduceMod, Nat.reduceSub, Nat.reduceBEq, Nat.reduceLT, Nat.reduceLeDiff, reduceCtorEq, Int.reduceNeg, Int.reduceEq, String.reduceEq, Int.reduceLT, Int.reduceLE, Int.reduceToNat, Int.reduceAdd, Int.reduceMul, Int.reduceSub])
  have hm : (1000000 : Nat) ≤ maxLen := by decide
  refine ⟨fun h => ?_, fun h0 => ⟨by omega, ?_⟩⟩
  · subst h
    have e : tgtForm m [] = 0 := form_no rfl
    rw [tgtAu, tgtPa, tgtErr, e]; exact ⟨rfl, rfl⟩
  refine VL_inv (X := Nat) (fun k => ⟨[(0, .str m), (1, .str s), (4, .ptr 80 0 0 1), (6, .bool (!visS s || decide (35 ∈ s.take k))), (7, .int .i64 k)], [(80, .cells 3 false (.agg [.int .i64 0, .str [], .str []]) [.agg [.int .i64 0, .str [], .str []]])]⟩) (fun k => k ≤ s.length) (fun k => s.length - k) 0 ?_ ?_ ?_
  · simp only [List.take_zero, List.not_mem_nil, decide_false, Bool.or_false, T_specParseR, Go.Proofs.Tryd.Tgt.tb_specVisibleR, Go.Proofs.Tryd.Host.tb_specNameR, Go.Proofs.Tryd.Host.tb_specParseR, Go.Proofs.Tryd.Oct.tb_specLowerR, go_sem, reduceIte, Nat.reduceEqDiff, Nat.reduceAdd, Nat.reduceMul, Nat.reduceDiv, Nat.reduceMod, Nat.reduceSub, Nat.reduceBEq, Nat.reduceLT, Nat.reduceLeDiff, reduceCtorEq, Int.reduceNeg, Int.reduceEq, String.reduceEq, Int.reduceLT, Int.reduceLE, Int.reduceToNat, Int.reduceAdd, Int.reduceMul, Int.reduceSub]
    try rfl
  · exact Nat.zero_le _
  rintro k hk
  simp (config := {maxSteps := 2000000}) only [T_specParseR, Go.Proofs.Tryd.Tgt.tb_specVisibleR, Go.Proofs.Tryd.Host.tb_specNameR, Go.Proofs.Tryd.Host.tb_specParseR, Go.Proofs.Tryd.Oct.tb_specLowerR, go_sem, reduceIte, Nat.reduceEqDiff, Nat.reduceAdd, Nat.reduceMul, Nat.reduceDiv, Nat.reduceMod, Nat.reduceSub, Nat.reduceBEq, Nat.reduceLT, Nat.reduceLeDiff, reduceCtorEq, Int.reduceNeg, Int.reduceEq, String.reduceEq, Int.reduceLT, Int.reduceLE, Int.reduceToNat, Int.reduceAdd, Int.reduceMul, Int.reduceSub]
  (try simp (config := {maxSteps := 2000000}) only [gimp, impB, isT, go_sem, reduceIte, Nat.reduceEqDiff, Nat.reduceAdd, Nat.reduceMul, Nat.reduceDiv, Nat.reduceMod, Nat.reduceSub, Nat.reduceBEq, Nat.reduceLT, Nat.reduceLeDiff, reduceCtorEq, Int.reduceNeg, Int.reduceEq, String.reduceEq, Int.reduceLT, Int.reduceLE, Int.reduceToNat, Int.reduceAdd, Int.reduceMul, Int.reduceSub])
  have hc : ([67, 79, 78, 78, 69, 67, 84] : List UInt8) = tgtCon := rfl
  have hop : ([79, 80, 84, 73, 79, 78, 83] : List UInt8) = tgtOpt := rfl
  have hsc : ([104, 116, 116, 112, 58, 47, 47] : List UInt8) = tgtSch := rfl
  rw [hc, hop, hsc]
  have hsl : lowerS tgtSch = tgtSch := by decide +kernel
  have htn : k < s.length → decide (35 ∈ s.take (k + 1)) = (decide (35 ∈ s.take k) || decide (s.getD k 0 = 35)) := fun h => by
    rw [take_succ_getD 0 h]; simp [Bool.decide_or, eq_comm]
  have htk : ∀ (n : Nat) (l : List UInt8), (l.take n).length ≤ l.length := fun n l => by rw [List.length_take]; omega
  refine ⟨fun hlt => ⟨⟨fun _ _ => by omega, fun _ _ => by omega⟩, by omega, k + 1, ⟨by rw [htn (by omega), Bool.or_assoc], by omega⟩, by omega, by omega⟩, fun hge => ?_⟩
  have : k = s.length := by omega
  subst this
  rw [List.take_length]
  have tg : ∀ f : Int, tgtForm m s = f → (AV.agg [.int .i64 (tgtForm m s), .str (tgtAu m s), .str (tgtPa m s)] = tgAV f s) ∧ tgtErr m s = if f = 0 then 11 else 0 := fun f h => tg_ok h0 h
  refine ⟨fun h => ?_, fun hv hn => ?_⟩
  · have : tgtSee s = false := by
      rw [tgtSee, Bool.and_eq_false_iff, Bool.not_eq_false', decide_eq_true_eq]; exact h
    obtain ⟨a, b⟩ := tg 0 (form_no this)
    rw [a, b]; exact ⟨rfl, rfl⟩
  have hh : tgtSee s = true := by rw [tgtSee, hv, decide_eq_false hn]; rfl
  refine ⟨fun h => ⟨hs, hs, fun g => ?_, fun g1 g2 => ?_⟩, fun h => ⟨by have := List.length_pos_iff.2 h0; omega, fun h1 => ?_, fun h1 => ⟨fun h2 h3 => ?_, fun h2 => ⟨fun _ => by have := htk 7 s; omega, fun g => ?_, fun g1 g2 => ?_⟩⟩⟩⟩
  · have e : tgtForm m s = 0 := by
      rw [h, form_con hh, if_neg]
      rw [conB, Bool.and_eq_true, hostedB, decide_eq_true_eq, Bool.not_eq_true', decide_eq_false_iff_not]
      rintro ⟨q1, q2⟩
      rcases g with g | g
      · exact g q1
      · omega
    obtain ⟨a, b⟩ := tg 0 e
    rw [a, b]; exact ⟨rfl, rfl⟩
  · have e : tgtForm m s = 3 := by
      rw [h, form_con hh, if_pos]
      rw [conB, Bool.and_eq_true, hostedB, decide_eq_true_eq, Bool.not_eq_true', decide_eq_false_iff_not]
      exact ⟨g1, by omega⟩
    obtain ⟨a, b⟩ := tg 3 e
    rw [a, b]; exact ⟨rfl, rfl⟩
  · obtain ⟨a, b⟩ := tg 1 (form_org hh h h1)
    rw [a, b]; exact ⟨rfl, rfl⟩
  · have e : tgtForm m s = 4 := by rw [h2, form_ast h, if_pos h3]
    obtain ⟨a, b⟩ := tg 4 e
    rw [a, b]; exact ⟨rfl, rfl⟩
  · have e : tgtForm m s = 0 := by
      by_cases q : s = [42]
      · rw [q, form_ast h, if_neg]
        rw [decide_eq_true q, Bool.true_and, decide_eq_false_iff_not] at h2
        exact h2
      · rw [form_abs hh h h1 q, if_neg]
        rw [absB, absB0, foldS, hsl]
        simp only [Bool.and_eq_true, decide_eq_true_eq]
        rintro ⟨⟨q1, q2⟩, q3⟩
        rcases g with g | g
        · omega
        · exact g q2
    obtain ⟨a, b⟩ := tg 0 e
    rw [a, b]; exact ⟨rfl, rfl⟩
  have hb0 : absB0 s = true := by
    rw [absB0, foldS, hsl, g2, decide_eq_true (by omega), decide_eq_true rfl]; rfl
  have hne : ¬ s = [42] := by rintro rfl; simp at g1
  have hform := form_abs hh h h1 hne
  rw [absB, hb0, Bool.true_and] at hform
  have hA : absAu s = (s.drop 7).take (absN (s.drop 7)) := rfl
  have hP : absPa s = (s.drop 7).drop (absN (s.drop 7)) := rfl
  have hN : absN (s.drop 7) = spanL (fun c => !stopB c) (s.drop 7) := rfl
  refine VL_inv (X := Nat) (fun j => ⟨[(1, .str s), (4, .ptr 80 0 0 1), (12, .int .i64 ((7 + j : Nat) : Int))], [(80, .cells 3 false (.agg [.int .i64 0, .str [], .str []]) [.agg [.int .i64 0, .str [], .str []]])]⟩) (fun j => 7 + j ≤ s.length ∧ ((s.drop 7).take j).all (fun c => !stopB c) = true) (fun j => s.length - j) 0 ?_ ?_ ?_
  · simp only [T_specParseR, Go.Proofs.Tryd.Tgt.tb_specVisibleR, Go.Proofs.Tryd.Host.tb_specNameR, Go.Proofs.Tryd.Host.tb_specParseR, Go.Proofs.Tryd.Oct.tb_specLowerR, go_sem, reduceIte, Nat.reduceEqDiff, Nat.reduceAdd, Nat.reduceMul, Nat.reduceDiv, Nat.reduceMod, Nat.reduceSub, Nat.reduceBEq, Nat.reduceLT, Nat.reduceLeDiff, reduceCtorEq, Int.reduceNeg, Int.reduceEq, String.reduceEq, Int.reduceLT, Int.reduceLE, Int.reduceToNat, Int.reduceAdd, Int.reduceMul, Int.reduceSub]
    try rfl
  · exact ⟨by omega, by simp⟩
  rintro j ⟨hj, hall⟩
  simp (config := {maxSteps := 2000000}) only [T_specParseR, Go.Proofs.Tryd.Tgt.tb_specVisibleR, Go.Proofs.Tryd.Host.tb_specNameR, Go.Proofs.Tryd.Host.tb_specParseR, Go.Proofs.Tryd.Oct.tb_specLowerR, go_sem, reduceIte, Nat.reduceEqDiff, Nat.reduceAdd, Nat.reduceMul, Nat.reduceDiv, Nat.reduceMod, Nat.reduceSub, Nat.reduceBEq, Nat.reduceLT, Nat.reduceLeDiff, reduceCtorEq, Int.reduceNeg, Int.reduceEq, String.reduceEq, Int.reduceLT, Int.reduceLE, Int.reduceToNat, Int.reduceAdd, Int.reduceMul, Int.reduceSub]
  (try simp (config := {maxSteps := 2000000}) only [gimp, impB, isT, go_sem, reduceIte, Nat.reduceEqDiff, Nat.reduceAdd, Nat.reduceMul, Nat.reduceDiv, Nat.reduceMod, Nat.reduceSub, Nat.reduceBEq, Nat.reduceLT, Nat.reduceLeDiff, reduceCtorEq, Int.reduceNeg, Int.reduceEq, String.reduceEq, Int.reduceLT, Int.reduceLE, Int.reduceToNat, Int.reduceAdd, Int.reduceMul, Int.reduceSub])
  have hg : (s.drop 7).getD j 0 = s.getD (7 + j) 0 := getD_drop s 7 j 0
  have hdl : (s.drop 7).length = s.length - 7 := by simp
  have ht : (s.take (7 + j)).drop 7 = (s.drop 7).take j := by rw [List.drop_take, Nat.add_sub_cancel_left]
  have hd : s.drop (7 + j) = (s.drop 7).drop j := by rw [List.drop_drop]
  refine ⟨fun _ => by omega, ⟨fun _ _ => by omega, fun h _ => h⟩, fun q1 q2 q3 => ⟨by omega, j + 1, by omega, ⟨by omega, ?_⟩, by omega⟩, fun q => ?_⟩
  · refine (all_step (p := fun c => !stopB c) (s := s.drop 7) (x := j) (by omega) hall).1 ?_
    rw [hg, stopB, decide_eq_false q2, decide_eq_false q3]; rfl
  have e : j = absN (s.drop 7) := by
    rw [hN]
    refine span_exit (by omega) hall (fun hlt => ?_)
    have hlt' : ((7 + j : Nat) : Int) < s.length := by omega
    rw [decide_eq_true hlt', Bool.true_and] at q
    rw [hg, stopB]
    show (!(decide (s.getD (7 + j) 0 = 47) || decide (s.getD (7 + j) 0 = 63))) = false
    rw [Bool.not_or]; exact q
  rw [ht, hd, e, ← hA, ← hP]
  have hal : (absAu s).length ≤ 1000000 := by
    have := htk (absN (s.drop 7)) (s.drop 7)
    rw [← hA] at this; omega
  refine ⟨by omega, hal, fun g => ?_, fun g => ⟨by omega, by omega, ?_⟩⟩
  · obtain ⟨a, b⟩ := tg 0 (by rw [hform, if_neg (by rw [hostedB, decide_eq_true_eq]; exact g)])
    rw [a, b]; exact ⟨rfl, rfl⟩
  · obtain ⟨a, b⟩ := tg 2 (by rw [hform, if_pos (by rw [hostedB, decide_eq_true_eq]; exact g)])
    rw [a, b]; exact ⟨rfl, rfl⟩
def tb_specParseR : List Blk → List AV → Option (List Blk × AV × Prop)
  | [], [.str m, .str s] => some ([], .tuple [.agg [.int .i64 (tgtForm m s), .str (tgtAu m s), .str (tgtPa m s)], .int .i64 (tgtErr m s)], (s.length ≤ 1000000))
  | _, _ => none
theorem tb_specParseR_ok : ∀ E args E' res p, tb_specParseR E args = some (E', res, p) → p → SpecE Tryd.prog 11 E args E' res := by
  intro E args E' res p h hp
  unfold tb_specParseR at h
  split at h
  · simp only [Option.some.injEq, Prod.mk.injEq] at h
    obtain ⟨rfl, rfl, rfl⟩ := h
    exact (specParseR _ _ hp)
  · cases h

def T_specLives : Tbl := fun g E args => (addT (addT nilT 10 Go.Proofs.Tryd.Tgt.tb_specParse) 15 Go.Proofs.Tryd.Tgt.tb_specOut) g E args
theorem T_specLives_ok : TblOK Tryd.prog T_specLives := (addT_ok (addT_ok nilT_ok (by decide +kernel) Go.Proofs.Tryd.Tgt.tb_specParse_ok) (by decide +kernel) Go.Proofs.Tryd.Tgt.tb_specOut_ok)
set_option maxRecDepth 100000 in
set_option maxHeartbeats 4000000 in
theorem specLives : SpecE Tryd.prog 12 [] [] [] (.bool true) := by
  refine specF0 (C := T_specLives) (wr := false) (D := fun _ => []) (U := fun _ => none) (res := [.bool true]) Tryd.Ty.mixed T_specLives_ok Tryd.func12 (nA := 0) (by decide +kernel) rfl (fun _ => rfl) ?_
  simp only [Tryd.f12, bodyOf, rlOf]
  rw [W_V]
  simp (config := {maxSteps := 2000000}) only [T_specLives, Go.Proofs.Tryd.Tgt.tb_specParse, Go.Proofs.Tryd.Tgt.tb_specOut, go_sem, reduceIte, Nat.reduceEqDiff, Nat.reduceAdd, Nat.reduceMul, Nat.reduceDiv, Nat.reduceMod, Nat.reduceSub, Nat.reduceBEq, Nat.reduceLT, Nat.reduceLeDiff, reduceCtorEq, Int.reduceNeg, Int.reduceEq, String.reduceEq, Int.reduceLT, Int.reduceLE, Int.reduceToNat, Int.reduceAdd, Int.reduceMul, Int.reduceSub]
  (try simp (config := {maxSteps := 2000000}) only [gimp, impB, isT, go_sem, reduceIte, Nat.reduceEqDiff, Nat.reduceAdd, Nat.reduceMul, Nat.reduceDiv, Nat.reduceMod, Nat.reduceSub, Nat.reduceBEq, Nat.reduceLT, Nat.reduceLeDiff, reduceCtorEq, Int.reduceNeg, Int.reduceEq, String.reduceEq, Int.reduceLT, Int.reduceLE, Int.reduceToNat, Int.reduceAdd, Int.reduceMul, Int.reduceSub])
  decide +kernel
def tb_specLives : List Blk → List AV → Option (List Blk × AV × Prop)
  | [], [] => some ([], .bool true, True)
  | _, _ => none
theorem tb_specLives_ok : ∀ E args E' res p, tb_specLives E args = some (E', res, p) → p → SpecE Tryd.prog 12 E args E' res := by
  intro E args E' res p h hp
  unfold tb_specLives at h
  split at h
  · simp only [Option.some.injEq, Prod.mk.injEq] at h
    obtain ⟨rfl, rfl, rfl⟩ := h
    exact specLives
  · cases h

def T_specLawParses : Tbl := fun g E args => (addT (addT (addT nilT 10 Go.Proofs.Tryd.Tgt.tb_specParse) 11 Go.Proofs.Tryd.Tgt.tb_specParseR) 12 Go.Proofs.Tryd.Tgt.tb_specLives) g E args
theorem T_specLawParses_ok : TblOK Tryd.prog T_specLawParses := (addT_ok (addT_ok (addT_ok nilT_ok (by decide +kernel) Go.Proofs.Tryd.Tgt.tb_specParse_ok) (by decide +kernel) Go.Proofs.Tryd.Tgt.tb_specParseR_ok) (by decide +kernel) Go.Proofs.Tryd.Tgt.tb_specLives_ok)
set_option maxRecDepth 100000 in
set_option maxHeartbeats 4000000 in
theorem specLawParses (m s : List UInt8) : SpecE Tryd.prog 4 [] [.str m, .str s] [] (.bool true) := by
  refine specF0 (C := T_specLawParses) (wr := false) (D := fun _ => []) (U := fun _ => none) (res := [.bool true]) Tryd.Ty.mixed T_specLawParses_ok Tryd.func4 (nA := 2) (by decide +kernel) rfl (fun _ => rfl) ?_
  simp only [Tryd.f4, bodyOf, rlOf]
  rw [W_V]
  simp (config := {maxSteps := 2000000}) only [T_specLawParses, Go.Proofs.Tryd.Tgt.tb_specParse, Go.Proofs.Tryd.Tgt.tb_specParseR, Go.Proofs.Tryd.Tgt.tb_specLives, go_sem, reduceIte, Nat.reduceEqDiff, Nat.reduceAdd, Nat.reduceMul, Nat.reduceDiv, Nat.reduceMod, Nat.reduceSub, Nat.reduceBEq, Nat.reduceLT, Nat.reduceLeDiff, reduceCtorEq, Int.reduceNeg, Int.reduceEq, String.reduceEq, Int.reduceLT, Int.reduceLE, Int.reduceToNat, Int.reduceAdd, Int.reduceMul, Int.reduceSub]
  (try simp (config := {maxSteps := 2000000}) only [gimp, impB, isT, go_sem, reduceIte, Nat.reduceEqDiff, Nat.reduceAdd, Nat.reduceMul, Nat.reduceDiv, Nat.reduceMod, Nat.reduceSub, Nat.reduceBEq, Nat.reduceLT, Nat.reduceLeDiff, reduceCtorEq, Int.reduceNeg, Int.reduceEq, String.reduceEq, Int.reduceLT, Int.reduceLE, Int.reduceToNat, Int.reduceAdd, Int.reduceMul, Int.reduceSub])
  rw [List.length_take]; omega
def tb_specLawParses : List Blk → List AV → Option (List Blk × AV × Prop)
  | [], [.str m, .str s] => some ([], .bool true, True)
  | _, _ => none
theorem tb_specLawParses_ok : ∀ E args E' res p, tb_specLawParses E args = some (E', res, p) → p → SpecE Tryd.prog 4 E args E' res := by
  intro E args E' res p h hp
  unfold tb_specLawParses at h
  split at h
  · simp only [Option.some.injEq, Prod.mk.injEq] at h
    obtain ⟨rfl, rfl, rfl⟩ := h
    exact (specLawParses _ _)
  · cases h

def T_specLawOut : Tbl := fun g E args => (addT (addT (addT (addT (addT nilT 13 Go.Proofs.Tryd.Tgt.tb_specText) 14 Go.Proofs.Tryd.Tgt.tb_specTextR) 15 Go.Proofs.Tryd.Tgt.tb_specOut) 16 Go.Proofs.Tryd.Tgt.tb_specOutR) 12 Go.Proofs.Tryd.Tgt.tb_specLives) g E args
theorem T_specLawOut_ok : TblOK Tryd.prog T_specLawOut := (addT_ok (addT_ok (addT_ok (addT_ok (addT_ok nilT_ok (by decide +kernel) Go.Proofs.Tryd.Tgt.tb_specText_ok) (by decide +kernel) Go.Proofs.Tryd.Tgt.tb_specTextR_ok) (by decide +kernel) Go.Proofs.Tryd.Tgt.tb_specOut_ok) (by decide +kernel) Go.Proofs.Tryd.Tgt.tb_specOutR_ok) (by decide +kernel) Go.Proofs.Tryd.Tgt.tb_specLives_ok)
set_option maxRecDepth 100000 in
set_option maxHeartbeats 4000000 in
theorem specLawOut (m : List UInt8) (f : Int) (a p : List UInt8) : SpecE Tryd.prog 5 [] [.str m, .agg [.int .i64 f, .str a, .str p]] [] (.bool true) := by
  refine specF0 (C := T_specLawOut) (wr := false) (D := fun _ => []) (U := fun _ => none) (res := [.bool true]) Tryd.Ty.mixed T_specLawOut_ok Tryd.func5 (nA := 2) (by decide +kernel) rfl (fun _ => rfl) ?_
  simp only [Tryd.f5, bodyOf, rlOf]
  rw [W_V]
  simp (config := {maxSteps := 2000000}) only [T_specLawOut, Go.Proofs.Tryd.Tgt.tb_specText, Go.Proofs.Tryd.Tgt.tb_specTextR, Go.Proofs.Tryd.Tgt.tb_specOut, Go.Proofs.Tryd.Tgt.tb_specOutR, Go.Proofs.Tryd.Tgt.tb_specLives, go_sem, reduceIte, Nat.reduceEqDiff, Nat.reduceAdd, Nat.reduceMul, Nat.reduceDiv, Nat.reduceMod, Nat.reduceSub, Nat.reduceBEq, Nat.reduceLT, Nat.reduceLeDiff, reduceCtorEq, Int.reduceNeg, Int.reduceEq, String.reduceEq, Int.reduceLT, Int.reduceLE, Int.reduceToNat, Int.reduceAdd, Int.reduceMul, Int.reduceSub]
  (try simp (config := {maxSteps := 2000000}) only [gimp, impB, isT, go_sem, reduceIte, Nat.reduceEqDiff, Nat.reduceAdd, Nat.reduceMul, Nat.reduceDiv, Nat.reduceMod, Nat.reduceSub, Nat.reduceBEq, Nat.reduceLT, Nat.reduceLeDiff, reduceCtorEq, Int.reduceNeg, Int.reduceEq, String.reduceEq, Int.reduceLT, Int.reduceLE, Int.reduceToNat, Int.reduceAdd, Int.reduceMul, Int.reduceSub])
  exact fun h1 h2 h3 => ⟨by omega, by omega⟩
def tb_specLawOut : List Blk → List AV → Option (List Blk × AV × Prop)
  | [], [.str m, .agg [.int .i64 f, .str a, .str p]] => some ([], .bool true, True)
  | _, _ => none
theorem tb_specLawOut_ok : ∀ E args E' res p, tb_specLawOut E args = some (E', res, p) → p → SpecE Tryd.prog 5 E args E' res := by
  intro E args E' res p h hp
  unfold tb_specLawOut at h
  split at h
  · simp only [Option.some.injEq, Prod.mk.injEq] at h
    obtain ⟨rfl, rfl, rfl⟩ := h
    exact (specLawOut _ _ _ _)
  · cases h

def T_specLawBack : Tbl := fun g E args => (addT (addT (addT (addT nilT 10 Go.Proofs.Tryd.Tgt.tb_specParse) 13 Go.Proofs.Tryd.Tgt.tb_specText) 15 Go.Proofs.Tryd.Tgt.tb_specOut) 12 Go.Proofs.Tryd.Tgt.tb_specLives) g E args
theorem T_specLawBack_ok : TblOK Tryd.prog T_specLawBack := (addT_ok (addT_ok (addT_ok (addT_ok nilT_ok (by decide +kernel) Go.Proofs.Tryd.Tgt.tb_specParse_ok) (by decide +kernel) Go.Proofs.Tryd.Tgt.tb_specText_ok) (by decide +kernel) Go.Proofs.Tryd.Tgt.tb_specOut_ok) (by decide +kernel) Go.Proofs.Tryd.Tgt.tb_specLives_ok)
set_option maxRecDepth 100000 in
set_option maxHeartbeats 4000000 in
theorem specLawBack (m s : List UInt8) : SpecE Tryd.prog 6 [] [.str m, .str s] [] (.bool true) := by
  refine specF0 (C := T_specLawBack) (wr := false) (D := fun _ => []) (U := fun _ => none) (res := [.bool true]) Tryd.Ty.mixed T_specLawBack_ok Tryd.func6 (nA := 2) (by decide +kernel) rfl (fun _ => rfl) ?_
  simp only [Tryd.f6, bodyOf, rlOf]
  rw [W_V]
  simp (config := {maxSteps := 2000000}) only [T_specLawBack, Go.Proofs.Tryd.Tgt.tb_specParse, Go.Proofs.Tryd.Tgt.tb_specText, Go.Proofs.Tryd.Tgt.tb_specOut, Go.Proofs.Tryd.Tgt.tb_specLives, go_sem, reduceIte, Nat.reduceEqDiff, Nat.reduceAdd, Nat.reduceMul, Nat.reduceDiv, Nat.reduceMod, Nat.reduceSub, Nat.reduceBEq, Nat.reduceLT, Nat.reduceLeDiff, reduceCtorEq, Int.reduceNeg, Int.reduceEq, String.reduceEq, Int.reduceLT, Int.reduceLE, Int.reduceToNat, Int.reduceAdd, Int.reduceMul, Int.reduceSub]
  (try simp (config := {maxSteps := 2000000}) only [gimp, impB, isT, go_sem, reduceIte, Nat.reduceEqDiff, Nat.reduceAdd, Nat.reduceMul, Nat.reduceDiv, Nat.reduceMod, Nat.reduceSub, Nat.reduceBEq, Nat.reduceLT, Nat.reduceLeDiff, reduceCtorEq, Int.reduceNeg, Int.reduceEq, String.reduceEq, Int.reduceLT, Int.reduceLE, Int.reduceToNat, Int.reduceAdd, Int.reduceMul, Int.reduceSub])
  have hl : (s.take 1000).length ≤ 1000 := by rw [List.length_take]; omega
  generalize s.take 1000 = s at *
  generalize m.take 60 = m at *
  have hc : ([67, 79, 78, 78, 69, 67, 84] : List UInt8) = tgtCon := rfl
  rw [hc]
  refine ⟨by omega, fun h => tgt_none h, fun h => ?_⟩
  have B := tgt_back h
  have hl1 := tgt_len m s
  generalize tgtOut m (tgtForm m s) (tgtAu m s) (tgtPa m s) = o at *
  generalize tgtText (tgtForm m s) (tgtAu m s) (tgtPa m s) = t at *
  have hl2 := tgt_len m o
  have b1 := B.tlen
  have b2 := B.olen
  refine ⟨⟨by omega, by omega⟩, by omega, fun g => ?_, fun _ _ _ _ => ⟨⟨by omega, by omega⟩, fun g => B.con g, fun g => ?_⟩⟩
  · rw [B.form, B.au, B.pa, B.err] at g
    simp at g
  · have e1 := B.oerr g
    have e2 := B.otext g
    have e3 := B.shape g
    exact ⟨by omega, ⟨fun _ => by omega, fun _ => by omega⟩, fun _ _ _ q => by have := List.length_pos_iff.2 q; omega, ⟨fun _ _ _ _ => e1, fun _ _ _ _ => e2⟩, ⟨e1, e2⟩, e3⟩
def tb_specLawBack : List Blk → List AV → Option (List Blk × AV × Prop)
  | [], [.str m, .str s] => some ([], .bool true, True)
  | _, _ => none
theorem tb_specLawBack_ok : ∀ E args E' res p, tb_specLawBack E args = some (E', res, p) → p → SpecE Tryd.prog 6 E args E' res := by
  intro E args E' res p h hp
  unfold tb_specLawBack at h
  split at h
  · simp only [Option.some.injEq, Prod.mk.injEq] at h
    obtain ⟨rfl, rfl, rfl⟩ := h
    exact (specLawBack _ _)
  · cases h
end Go.Proofs.Tryd.Tgt
