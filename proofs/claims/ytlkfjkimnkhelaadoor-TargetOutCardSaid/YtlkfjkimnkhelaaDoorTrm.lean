/- strings.TrimRight at cutsets of ASCII. Condition: texts are no longer than a machine holds. -/
import Derived.Test.YtlkfjkimnkhelaaDoorOctM
import Derived.Test.YtlkfjkimnkhelaaDoorAbsT
import Derived.Test.YtlkfjkimnkhelaaDoorTyp
import Derived.Test.YtlkfjkimnkhelaaDoorProg
set_option linter.unusedVariables false
set_option linter.unusedSimpArgs false
namespace Go.Mdl
open Go Go.Abs
def avB : AV → Bool
  | .bool b => b
  | _ => false
def enc_bls (l : List Bool) : List AV := l.map .bool
def dec_bls (l : List AV) : List Bool := l.map avB
theorem bls_map (l : List Bool) : enc_bls l = l.map .bool := rfl
theorem bls_back (l : List Bool) : dec_bls (l.map .bool) = l := by simp [dec_bls, List.map_map, Function.comp_def, avB]
/-- A set of octets as Go keeps it. -/
def asc (w : List UInt8) : List Bool := (List.range 256).map fun i => decide (UInt8.ofNat i ∈ w)
def ascP (c : List Bool) (x : UInt8) : Bool := c.getD x.toNat false
/-- A text without what is so at its end. -/
def cutR (p : UInt8 → Bool) (s : List UInt8) : List UInt8 := (s.reverse.dropWhile p).reverse
theorem asc_len (w : List UInt8) : (asc w).length = 256 := by simp [asc]
theorem ascP_asc (w : List UInt8) : ascP (asc w) = fun x => decide (x ∈ w) := by
  funext x
  have : x.toNat < 256 := x.toNat_lt
  simp [ascP, asc, List.getD_eq_getElem?_getD, List.getElem?_range this]
theorem asc_set (w : List UInt8) (c : UInt8) : (asc w).set c.toNat true = asc (w ++ [c]) := by
  apply List.ext_getElem?
  intro i
  have hc : c.toNat < 256 := c.toNat_lt
  rw [List.getElem?_set]
  by_cases hi : i < 256
  · simp only [asc, List.length_map, List.length_range, List.getElem?_map, List.getElem?_range hi, Option.map_some, hc, if_true]
    by_cases he : c.toNat = i
    · subst he; simp
    · rw [if_neg he]
      have : UInt8.ofNat i ≠ c := fun h => he (by rw [← h]; simp; omega)
      simp [this]
  · have h1 : (asc w)[i]? = none := List.getElem?_eq_none (by rw [asc_len]; omega)
    have h2 : (asc (w ++ [c]))[i]? = none := List.getElem?_eq_none (by rw [asc_len]; omega)
    rw [h1, h2, if_neg (by omega)]
theorem map_set_bool (l : List Bool) (i : Nat) (b : Bool) : (l.map AV.bool).set i (.bool b) = (l.set i b).map .bool := by rw [List.map_set]
theorem getD_map_bool (l : List Bool) (n : Nat) : (l.map AV.bool).getD n (.bool false) = .bool (l.getD n false) := by
  simp only [List.getD_eq_getElem?_getD, List.getElem?_map]; cases l[n]? <;> rfl
theorem bool_flat (l : List Bool) : (l.map AV.bool).flatMap AV.cells = l.map .bool := by
  induction l with
  | nil => rfl
  | cons a r ih => simp only [List.map_cons, List.flatMap_cons, ih]; rfl
theorem bool_one1 (l : List Bool) : (l.map AV.bool).all one1 = true := by
  rw [List.all_eq_true]; intro x hx
  obtain ⟨i, _, rfl⟩ := List.mem_map.1 hx; rfl
theorem bool_ids (L : Nat → Option Blk) (l : List Bool) : idsOKL L (l.map AV.bool) = True := by
  induction l with
  | nil => exact eq_true trivial
  | cons a r ih => exact eq_true ⟨trivial, ih.mpr trivial⟩
theorem bool_allT {α : Type} (l : List α) : (l.all fun _ => true) = true := by simp
theorem bool_all (l : List Bool) (p : AV → Bool) : (l.map AV.bool).all p = l.all fun b => p (.bool b) := by simp [List.all_map, Function.comp_def]
theorem bool_pure (l : List Bool) : pureEl (l.map AV.bool) = true := pureEl_map _ _ (fun _ => rfl)
theorem bool_ref (l : List Bool) : oneRef (l.map AV.bool) = none := oneRef_map (fun _ => rfl) _
theorem bool_pids (l : List Bool) : pidsL (l.map AV.bool) = [] := pidsL_map (fun _ => rfl) _
theorem bool_ren (σ : Nat → Nat) (l : List Bool) : (l.map AV.bool).map (ren σ) = l.map .bool := ren_map (fun _ => rfl) _
attribute [go_sem] bool_allT bool_all bls_map bls_back map_set_bool getD_map_bool bool_flat bool_one1 bool_ids bool_pure bool_ref bool_pids bool_ren asc_len
theorem cutR_nil (p : UInt8 → Bool) : cutR p [] = [] := rfl
theorem getD_last {s : List UInt8} (hne : s ≠ []) : s.getLast hne = s.getD (s.length - 1) 0 := by
  rw [List.getD_eq_getElem?_getD, ← List.getLast?_eq_getElem?, List.getLast?_eq_some_getLast hne]; rfl
theorem cutR_stop {p : UInt8 → Bool} {s : List UInt8} (h : 0 < s.length) (hc : p (s.getD (s.length - 1) 0) = false) : cutR p s = s := by
  have hne : s ≠ [] := List.ne_nil_of_length_pos h
  have e := List.dropLast_concat_getLast hne
  have hg := getD_last hne
  have : cutR p (s.dropLast ++ [s.getLast hne]) = s.dropLast ++ [s.getLast hne] := by
    rw [cutR, List.reverse_append, List.reverse_singleton, List.singleton_append, List.dropWhile_cons_of_neg (by rw [hg, hc]; simp)]
    simp
  rwa [e] at this
theorem cutR_cut {p : UInt8 → Bool} {s : List UInt8} (h : 0 < s.length) (hc : p (s.getD (s.length - 1) 0) = true) : cutR p s = cutR p (s.take (s.length - 1)) := by
  have hne : s ≠ [] := List.ne_nil_of_length_pos h
  have e := List.dropLast_concat_getLast hne
  have hg := getD_last hne
  have : cutR p (s.dropLast ++ [s.getLast hne]) = cutR p s.dropLast := by
    rw [cutR, List.reverse_append, List.reverse_singleton, List.singleton_append, List.dropWhile_cons_of_pos (by rw [hg, hc])]; rfl
  rw [e] at this
  rw [this, List.dropLast_eq_take]
theorem cutR_len (p : UInt8 → Bool) (s : List UInt8) : (cutR p s).length ≤ s.length := by
  rw [cutR, List.length_reverse]
  have := List.IsSuffix.length_le (List.dropWhile_suffix (l := s.reverse) p)
  simpa using this
end Go.Mdl
namespace Go.Proofs.Tryd.Trm
open Go Go.Abs Go.Proofs Go.Mdl

def T_specMake : Tbl := fun g E args => nilT g E args
theorem T_specMake_ok : TblOK Tryd.prog T_specMake := nilT_ok
set_option maxRecDepth 100000 in
set_option maxHeartbeats 4000000 in
theorem specMake (w : List UInt8) (hl : w.length ≤ 1000) (hw : ∀ c ∈ w, c.toNat < 128) : SpecE Tryd.prog 71 [] [.str w] [] (.tuple [.agg ((asc w).map .bool), .bool true]) := by
  refine specF0 (C := T_specMake) (wr := false) (D := fun _ => []) (U := fun _ => none) (res := [.agg ((asc w).map .bool), .bool true]) Tryd.Ty.mixed T_specMake_ok Tryd.func71 (nA := 1) (by decide +kernel) rfl (fun _ => rfl) ?_
  simp only [Tryd.f71, bodyOf, rlOf]
  rw [W_V]
  simp (config := {maxSteps := 2000000}) only [T_specMake, go_sem, reduceIte, Nat.reduceEqDiff, Nat.reduceAdd, Nat.reduceMul, Nat.reduceDiv, Nat.reduceMod, Nat.reduceSub, Nat.reduceBEq, Nat.reduceLT, Nat.reduceLeDiff, reduceCtorEq, Int.reduceNeg, Int.reduceEq, String.reduceEq, Int.reduceLT, Int.reduceLE, Int.reduceToNat, Int.reduceAdd, Int.reduceMul, Int.reduceSub]
  (try simp (config := {maxSteps := 2000000}) only [gimp, impB, isT, go_sem, reduceIte, Nat.reduceEqDiff, Nat.reduceAdd, Nat.reduceMul, Nat.reduceDiv, Nat.reduceMod, Nat.reduceSub, Nat.reduceBEq, Nat.reduceLT, Nat.reduceLeDiff, reduceCtorEq, Int.reduceNeg, Int.reduceEq, String.reduceEq, Int.reduceLT, Int.reduceLE, Int.reduceToNat, Int.reduceAdd, Int.reduceMul, Int.reduceSub])
  refine VL_inv (X := Nat) (fun k => ⟨[(0, .str w), (2, .ptr 48 0 0 256), (4, .int .i64 k)], [(48, .cells 1 false (.bool false) ((asc (w.take k)).map .bool))]⟩) (fun k => k ≤ w.length) (fun k => w.length - k) 0 ?_ ?_ ?_
  · have e : (asc (w.take 0)).map AV.bool = List.replicate 256 (.bool false) := by rw [List.take_zero]; simp only [asc, List.not_mem_nil, decide_false]; rfl
    rw [e]
    simp only [T_specMake, go_sem, reduceIte, Nat.reduceEqDiff, Nat.reduceAdd, Nat.reduceMul, Nat.reduceDiv, Nat.reduceMod, Nat.reduceSub, Nat.reduceBEq, Nat.reduceLT, Nat.reduceLeDiff, reduceCtorEq, Int.reduceNeg, Int.reduceEq, String.reduceEq, Int.reduceLT, Int.reduceLE, Int.reduceToNat, Int.reduceAdd, Int.reduceMul, Int.reduceSub]
    try rfl
  · exact Nat.zero_le _
  rintro k hk
  simp (config := {maxSteps := 2000000}) only [T_specMake, go_sem, reduceIte, Nat.reduceEqDiff, Nat.reduceAdd, Nat.reduceMul, Nat.reduceDiv, Nat.reduceMod, Nat.reduceSub, Nat.reduceBEq, Nat.reduceLT, Nat.reduceLeDiff, reduceCtorEq, Int.reduceNeg, Int.reduceEq, String.reduceEq, Int.reduceLT, Int.reduceLE, Int.reduceToNat, Int.reduceAdd, Int.reduceMul, Int.reduceSub]
  (try simp (config := {maxSteps := 2000000}) only [gimp, impB, isT, go_sem, reduceIte, Nat.reduceEqDiff, Nat.reduceAdd, Nat.reduceMul, Nat.reduceDiv, Nat.reduceMod, Nat.reduceSub, Nat.reduceBEq, Nat.reduceLT, Nat.reduceLeDiff, reduceCtorEq, Int.reduceNeg, Int.reduceEq, String.reduceEq, Int.reduceLT, Int.reduceLE, Int.reduceToNat, Int.reduceAdd, Int.reduceMul, Int.reduceSub])
  have hmem := fun h : k < w.length => hw _ (List.mem_of_getElem? (getD_of_lt (s := w) (d := 0) h))
  rw [Nat.zero_add, asc_set]
  refine ⟨fun hlt => ⟨by omega, fun h => by have := hmem (by omega); omega, fun h => ⟨by omega, by omega, by omega, k + 1, ⟨by omega, ?_⟩, by omega, by omega⟩⟩, fun hge => ?_⟩
  · rw [take_succ_getD 0 (by omega)]
  · rw [List.take_of_length_le (by omega)]
def tb_specMake : List Blk → List AV → Option (List Blk × AV × Prop)
  | [], [.str w] => some ([], .tuple [.agg ((asc w).map .bool), .bool true], (w.length ≤ 1000) ∧ (∀ c ∈ w, c.toNat < 128))
  | _, _ => none
theorem tb_specMake_ok : ∀ E args E' res p, tb_specMake E args = some (E', res, p) → p → SpecE Tryd.prog 71 E args E' res := by
  intro E args E' res p h hp
  unfold tb_specMake at h
  split at h
  · simp only [Option.some.injEq, Prod.mk.injEq] at h
    obtain ⟨rfl, rfl, rfl⟩ := h
    exact (specMake _ hp.1 hp.2)
  · cases h

def T_specHasC : Tbl := fun g E args => nilT g E args
theorem T_specHasC_ok : TblOK Tryd.prog T_specHasC := nilT_ok
set_option maxRecDepth 100000 in
set_option maxHeartbeats 4000000 in
theorem specHasC (c : List Bool) (x : UInt8) (hc : c.length = 256) : SpecE Tryd.prog 91 [.cells 1 false (.bool false) (c.map .bool)] [.ptr 0 0 0 256, enc_u8 x] [.cells 1 false (.bool false) (c.map .bool)] (.bool (ascP c x)) := by
  refine specFE (C := T_specHasC) (wr := false) (D := fun _ => []) (U := fun _ => none) (E := [.cells 1 false (.bool false) (c.map .bool)]) (E' := [.cells 1 false (.bool false) (c.map .bool)]) (res := [.bool (ascP c x)]) [] Tryd.Ty.mixed T_specHasC_ok Tryd.func91 (args := [.ptr 0 0 0 256, enc_u8 x]) (nE := 1) (nA := 2) (by decide +kernel) rfl rfl ?_
  simp only [Tryd.f91, bodyOf, rlOf]
  rw [W_V]
  simp (config := {maxSteps := 2000000}) only [T_specHasC, go_sem, reduceIte, Nat.reduceEqDiff, Nat.reduceAdd, Nat.reduceMul, Nat.reduceDiv, Nat.reduceMod, Nat.reduceSub, Nat.reduceBEq, Nat.reduceLT, Nat.reduceLeDiff, reduceCtorEq, Int.reduceNeg, Int.reduceEq, String.reduceEq, Int.reduceLT, Int.reduceLE, Int.reduceToNat, Int.reduceAdd, Int.reduceMul, Int.reduceSub, hc]
  (try simp (config := {maxSteps := 2000000}) only [gimp, impB, isT, go_sem, reduceIte, Nat.reduceEqDiff, Nat.reduceAdd, Nat.reduceMul, Nat.reduceDiv, Nat.reduceMod, Nat.reduceSub, Nat.reduceBEq, Nat.reduceLT, Nat.reduceLeDiff, reduceCtorEq, Int.reduceNeg, Int.reduceEq, String.reduceEq, Int.reduceLT, Int.reduceLE, Int.reduceToNat, Int.reduceAdd, Int.reduceMul, Int.reduceSub])
  have hx : x.toNat < 256 := x.toNat_lt
  rw [Nat.zero_add]
  exact ⟨by omega, by omega, rfl⟩
def tb_specHasC : List Blk → List AV → Option (List Blk × AV × Prop)
  | [.cells 1 false d b0_0], [.ptr 0 0 0 256, a1] => some ([.cells 1 false (.bool false) ((dec_bls b0_0).map .bool)], .bool (ascP (dec_bls b0_0) (dec_u8 a1)), (d = .bool false) ∧ ((dec_bls b0_0).length = 256) ∧ b0_0 = enc_bls (dec_bls b0_0) ∧ argOK a1 (enc_u8 (dec_u8 a1)))
  | _, _ => none
theorem tb_specHasC_ok : ∀ E args E' res p, tb_specHasC E args = some (E', res, p) → p → SpecE Tryd.prog 91 E args E' res := by
  intro E args E' res p h hp
  unfold tb_specHasC at h
  split at h
  · rename_i d b0_0 a1
    simp only [Option.some.injEq, Prod.mk.injEq] at h
    obtain ⟨rfl, rfl, rfl⟩ := h
    obtain ⟨rfl, hh0, hb0, hc0⟩ := hp
    generalize dec_bls b0_0 = b0_0_x at *
    subst hb0
    exact SpecE.args (specHasC _ _ hh0) (.cons (argOK.refl _) (.cons hc0 .nil))
  · cases h

def T_specTrimA : Tbl := fun g E args => (addT nilT 91 Go.Proofs.Tryd.Trm.tb_specHasC) g E args
theorem T_specTrimA_ok : TblOK Tryd.prog T_specTrimA := (addT_ok nilT_ok (by decide +kernel) Go.Proofs.Tryd.Trm.tb_specHasC_ok)
set_option maxRecDepth 100000 in
set_option maxHeartbeats 4000000 in
theorem specTrimA (c : List Bool) (s : List UInt8) (hc : c.length = 256) (hs : s.length ≤ maxLen) : SpecE Tryd.prog 72 [.cells 1 false (.bool false) (c.map .bool)] [.str s, .ptr 0 0 0 256] [.cells 1 false (.bool false) (c.map .bool)] (.str (cutR (ascP c) s)) := by
  refine specFE (C := T_specTrimA) (wr := false) (D := fun _ => []) (U := fun _ => none) (E := [.cells 1 false (.bool false) (c.map .bool)]) (E' := [.cells 1 false (.bool false) (c.map .bool)]) (res := [.str (cutR (ascP c) s)]) [] Tryd.Ty.mixed T_specTrimA_ok Tryd.func72 (args := [.str s, .ptr 0 0 0 256]) (nE := 1) (nA := 2) (by decide +kernel) rfl rfl ?_
  simp only [Tryd.f72, bodyOf, rlOf]
  rw [W_V]
  simp (config := {maxSteps := 2000000}) only [T_specTrimA, Go.Proofs.Tryd.Trm.tb_specHasC, go_sem, reduceIte, Nat.reduceEqDiff, Nat.reduceAdd, Nat.reduceMul, Nat.reduceDiv, Nat.reduceMod, Nat.reduceSub, Nat.reduceBEq, Nat.reduceLT, Nat.reduceLeDiff, reduceCtorEq, Int.reduceNeg, Int.reduceEq, String.reduceEq, Int.reduceLT, Int.reduceLE, Int.reduceToNat, Int.reduceAdd, Int.reduceMul, Int.reduceSub, hc]
  (try simp (config := {maxSteps := 2000000}) only [gimp, impB, isT, go_sem, reduceIte, Nat.reduceEqDiff, Nat.reduceAdd, Nat.reduceMul, Nat.reduceDiv, Nat.reduceMod, Nat.reduceSub, Nat.reduceBEq, Nat.reduceLT, Nat.reduceLeDiff, reduceCtorEq, Int.reduceNeg, Int.reduceEq, String.reduceEq, Int.reduceLT, Int.reduceLE, Int.reduceToNat, Int.reduceAdd, Int.reduceMul, Int.reduceSub])
  refine VL_inv (X := List UInt8) (fun x => ⟨[(0, .str x), (1, .ptr 0 0 0 256)], [(0, .cells 1 false (.bool false) (c.map .bool))]⟩) (fun x => x.length ≤ s.length ∧ cutR (ascP c) s = cutR (ascP c) x) (fun x => x.length) s ?_ ?_ ?_
  · simp only [T_specTrimA, Go.Proofs.Tryd.Trm.tb_specHasC, go_sem, reduceIte, Nat.reduceEqDiff, Nat.reduceAdd, Nat.reduceMul, Nat.reduceDiv, Nat.reduceMod, Nat.reduceSub, Nat.reduceBEq, Nat.reduceLT, Nat.reduceLeDiff, reduceCtorEq, Int.reduceNeg, Int.reduceEq, String.reduceEq, Int.reduceLT, Int.reduceLE, Int.reduceToNat, Int.reduceAdd, Int.reduceMul, Int.reduceSub, hc]
    try rfl
  · exact ⟨Nat.le_refl _, rfl⟩
  rintro x ⟨h1, h2⟩
  simp (config := {maxSteps := 2000000}) only [T_specTrimA, Go.Proofs.Tryd.Trm.tb_specHasC, go_sem, reduceIte, Nat.reduceEqDiff, Nat.reduceAdd, Nat.reduceMul, Nat.reduceDiv, Nat.reduceMod, Nat.reduceSub, Nat.reduceBEq, Nat.reduceLT, Nat.reduceLeDiff, reduceCtorEq, Int.reduceNeg, Int.reduceEq, String.reduceEq, Int.reduceLT, Int.reduceLE, Int.reduceToNat, Int.reduceAdd, Int.reduceMul, Int.reduceSub, hc]
  (try simp (config := {maxSteps := 2000000}) only [gimp, impB, isT, go_sem, reduceIte, Nat.reduceEqDiff, Nat.reduceAdd, Nat.reduceMul, Nat.reduceDiv, Nat.reduceMod, Nat.reduceSub, Nat.reduceBEq, Nat.reduceLT, Nat.reduceLeDiff, reduceCtorEq, Int.reduceNeg, Int.reduceEq, String.reduceEq, Int.reduceLT, Int.reduceLE, Int.reduceToNat, Int.reduceAdd, Int.reduceMul, Int.reduceSub])
  have hm : s.length ≤ 9223372036854775807 := hs
  refine ⟨fun h => ⟨by omega, by omega, fun hc => ?_, fun hc => ⟨by omega, by omega, _, rfl, ⟨by rw [List.length_take]; omega, ?_⟩, by rw [List.length_take]; omega⟩⟩, fun h => ?_⟩
  · rw [h2, cutR_stop (by omega) hc]
  · rw [h2, ← cutR_cut (by omega) hc]
  · have : x = [] := List.eq_nil_of_length_eq_zero (by omega)
    subst this
    rw [h2]; rfl
def tb_specTrimA : List Blk → List AV → Option (List Blk × AV × Prop)
  | [.cells 1 false d b0_0], [.str s, .ptr 0 0 0 256] => some ([.cells 1 false (.bool false) ((dec_bls b0_0).map .bool)], .str (cutR (ascP (dec_bls b0_0)) s), (d = .bool false) ∧ ((dec_bls b0_0).length = 256) ∧ (s.length ≤ maxLen) ∧ b0_0 = enc_bls (dec_bls b0_0))
  | _, _ => none
theorem tb_specTrimA_ok : ∀ E args E' res p, tb_specTrimA E args = some (E', res, p) → p → SpecE Tryd.prog 72 E args E' res := by
  intro E args E' res p h hp
  unfold tb_specTrimA at h
  split at h
  · rename_i d b0_0 s
    simp only [Option.some.injEq, Prod.mk.injEq] at h
    obtain ⟨rfl, rfl, rfl⟩ := h
    obtain ⟨rfl, hh0, hh1, hb0⟩ := hp
    generalize dec_bls b0_0 = b0_0_x at *
    subst hb0
    exact (specTrimA _ _ hh0 hh1)
  · cases h

def T_specTrimRight : Tbl := fun g E args => (addT (addT nilT 71 Go.Proofs.Tryd.Trm.tb_specMake) 72 Go.Proofs.Tryd.Trm.tb_specTrimA) g E args
theorem T_specTrimRight_ok : TblOK Tryd.prog T_specTrimRight := (addT_ok (addT_ok nilT_ok (by decide +kernel) Go.Proofs.Tryd.Trm.tb_specMake_ok) (by decide +kernel) Go.Proofs.Tryd.Trm.tb_specTrimA_ok)
set_option maxRecDepth 100000 in
set_option maxHeartbeats 4000000 in
theorem specTrimRight (s w : List UInt8) (hl : w.length ≤ 1000) (h2 : 2 ≤ w.length) (hw : ∀ c ∈ w, c.toNat < 128) (hs : s.length ≤ maxLen) : SpecE Tryd.prog 47 [] [.str s, .str w] [] (.str (cutR (fun x => decide (x ∈ w)) s)) := by
  refine specF0 (C := T_specTrimRight) (wr := false) (D := fun _ => []) (U := fun _ => none) (res := [.str (cutR (fun x => decide (x ∈ w)) s)]) Tryd.Ty.mixed T_specTrimRight_ok Tryd.func47 (nA := 2) (by decide +kernel) rfl (fun _ => rfl) ?_
  simp only [Tryd.f47, bodyOf, rlOf]
  rw [W_V]
  simp (config := {maxSteps := 2000000}) only [T_specTrimRight, Go.Proofs.Tryd.Trm.tb_specMake, Go.Proofs.Tryd.Trm.tb_specTrimA, go_sem, reduceIte, Nat.reduceEqDiff, Nat.reduceAdd, Nat.reduceMul, Nat.reduceDiv, Nat.reduceMod, Nat.reduceSub, Nat.reduceBEq, Nat.reduceLT, Nat.reduceLeDiff, reduceCtorEq, Int.reduceNeg, Int.reduceEq, String.reduceEq, Int.reduceLT, Int.reduceLE, Int.reduceToNat, Int.reduceAdd, Int.reduceMul, Int.reduceSub, ascP_asc, show (w.length : Int) ≠ 1 by omega]
  (try simp (config := {maxSteps := 2000000}) only [gimp, impB, isT, go_sem, reduceIte, Nat.reduceEqDiff, Nat.reduceAdd, Nat.reduceMul, Nat.reduceDiv, Nat.reduceMod, Nat.reduceSub, Nat.reduceBEq, Nat.reduceLT, Nat.reduceLeDiff, reduceCtorEq, Int.reduceNeg, Int.reduceEq, String.reduceEq, Int.reduceLT, Int.reduceLE, Int.reduceToNat, Int.reduceAdd, Int.reduceMul, Int.reduceSub])
  refine ⟨fun h => ?_, fun _ _ _ => ⟨⟨hl, hw⟩, hs⟩⟩
  rcases h with rfl | rfl
  · rfl
  · simp at h2
def tb_specTrimRight : List Blk → List AV → Option (List Blk × AV × Prop)
  | [], [.str s, .str w] => some ([], .str (cutR (fun x => decide (x ∈ w)) s), (w.length ≤ 1000) ∧ (2 ≤ w.length) ∧ (∀ c ∈ w, c.toNat < 128) ∧ (s.length ≤ maxLen))
  | _, _ => none
theorem tb_specTrimRight_ok : ∀ E args E' res p, tb_specTrimRight E args = some (E', res, p) → p → SpecE Tryd.prog 47 E args E' res := by
  intro E args E' res p h hp
  unfold tb_specTrimRight at h
  split at h
  · simp only [Option.some.injEq, Prod.mk.injEq] at h
    obtain ⟨rfl, rfl, rfl⟩ := h
    exact (specTrimRight _ _ hp.1 hp.2.1 hp.2.2.1 hp.2.2.2)
  · cases h
end Go.Proofs.Tryd.Trm
