/- hostfix: the walks. No condition beyond those that a machine's numbers bring. -/
import Derived.Test.YtanpmebamgnhbaaHfxM
import Derived.Test.YtanpmebamgnhbaaHdrA
import Derived.Test.YtanpmebamgnhbaaHostB
set_option linter.unusedVariables false
set_option linter.unusedSimpArgs false
namespace Go.Proofs.Try.Hfx
open Go Go.Abs Go.Proofs Go.Mdl

def T_specPlaceF : Tbl := fun g E args => nilT g E args
theorem T_specPlaceF_ok : TblOK Try.prog T_specPlaceF := nilT_ok
set_option maxRecDepth 100000 in
set_option maxHeartbeats 4000000 in
theorem specPlaceF (fo : Int) (a p : List UInt8) : SpecE Try.prog 184 [.cells 3 false (.agg [.int .i64 0, .str [], .str []]) [.agg [.int .i64 fo, .str a, .str p]]] [.ptr 0 0 0 1] [.cells 3 false (.agg [.int .i64 0, .str [], .str []]) [.agg [.int .i64 fo, .str a, .str p]]] (.bool (decide (fo = 2))) := by
  refine specFE (C := T_specPlaceF) (wr := false) (D := fun _ => []) (U := fun _ => none) (E := [.cells 3 false (.agg [.int .i64 0, .str [], .str []]) [.agg [.int .i64 fo, .str a, .str p]]]) (E' := [.cells 3 false (.agg [.int .i64 0, .str [], .str []]) [.agg [.int .i64 fo, .str a, .str p]]]) (res := [.bool (decide (fo = 2))]) [] Try.Ty.mixed T_specPlaceF_ok Try.func184 (nE := 1) (nA := 1) (by decide +kernel) rfl rfl ?_
  simp only [Try.f184, bodyOf, rlOf]
  rw [W_V]
  simp (config := {maxSteps := 2000000}) only [T_specPlaceF, go_sem, reduceIte, Nat.reduceEqDiff, Nat.reduceAdd, Nat.reduceMul, Nat.reduceSub, Nat.reduceBEq, Nat.reduceLT, Nat.reduceLeDiff, reduceCtorEq, Int.reduceNeg, Int.reduceEq, String.reduceEq, Int.reduceLT, Int.reduceLE, Int.reduceToNat, Int.reduceAdd, Int.reduceMul, Int.reduceSub]
  (try simp (config := {maxSteps := 2000000}) only [gimp, impB, isT, go_sem, reduceIte, Nat.reduceEqDiff, Nat.reduceAdd, Nat.reduceMul, Nat.reduceSub, Nat.reduceBEq, Nat.reduceLT, Nat.reduceLeDiff, reduceCtorEq, Int.reduceNeg, Int.reduceEq, String.reduceEq, Int.reduceLT, Int.reduceLE, Int.reduceToNat, Int.reduceAdd, Int.reduceMul, Int.reduceSub])
def tb_specPlaceF : List Blk → List AV → Option (List Blk × AV × Prop)
  | [.cells 3 false d [.agg [.int .i64 fo, .str a, .str p]]], [.ptr 0 0 0 1] => some ([.cells 3 false (.agg [.int .i64 0, .str [], .str []]) [.agg [.int .i64 fo, .str a, .str p]]], .bool (decide (fo = 2)), (d = .agg [.int .i64 0, .str [], .str []]))
  | _, _ => none
theorem tb_specPlaceF_ok : ∀ E args E' res p, tb_specPlaceF E args = some (E', res, p) → p → SpecE Try.prog 184 E args E' res := by
  intro E args E' res p h hp
  unfold tb_specPlaceF at h
  split at h
  · simp only [Option.some.injEq, Prod.mk.injEq] at h
    obtain ⟨rfl, rfl, rfl⟩ := h
    obtain rfl := hp
    exact (specPlaceF _ _ _)
  · cases h

def T_specPlace : Tbl := fun g E args => (addT (addT nilT 184 Go.Proofs.Try.Hfx.tb_specPlaceF) 87 Go.Proofs.Try.Hdr.tb_specGet) g E args
theorem T_specPlace_ok : TblOK Try.prog T_specPlace := (addT_ok (addT_ok nilT_ok (by decide +kernel) Go.Proofs.Try.Hfx.tb_specPlaceF_ok) (by decide +kernel) Go.Proofs.Try.Hdr.tb_specGet_ok)
set_option maxRecDepth 100000 in
set_option maxHeartbeats 4000000 in
theorem specPlace (l : List Fld) (fo : Int) (a p au : List UInt8) (hl : l.length ≤ 1000) : SpecE Try.prog 80 [] [enc_flds l, .agg [.int .i64 fo, .str a, .str p], .str au] [] (.str (hfPlace l fo a au)) := by
  refine specF0 (C := T_specPlace) (wr := false) (D := fun _ => []) (U := fun _ => none) (res := [.str (hfPlace l fo a au)]) Try.Ty.mixed T_specPlace_ok Try.func80 (nA := 3) (by decide +kernel) rfl (fun _ => rfl) ?_
  simp only [Try.f80, bodyOf, rlOf]
  rw [W_V]
  simp (config := {maxSteps := 2000000}) only [T_specPlace, Go.Proofs.Try.Hfx.tb_specPlaceF, Go.Proofs.Try.Hdr.tb_specGet, go_sem, reduceIte, Nat.reduceEqDiff, Nat.reduceAdd, Nat.reduceMul, Nat.reduceSub, Nat.reduceBEq, Nat.reduceLT, Nat.reduceLeDiff, reduceCtorEq, Int.reduceNeg, Int.reduceEq, String.reduceEq, Int.reduceLT, Int.reduceLE, Int.reduceToNat, Int.reduceAdd, Int.reduceMul, Int.reduceSub]
  (try simp (config := {maxSteps := 2000000}) only [gimp, impB, isT, go_sem, reduceIte, Nat.reduceEqDiff, Nat.reduceAdd, Nat.reduceMul, Nat.reduceSub, Nat.reduceBEq, Nat.reduceLT, Nat.reduceLeDiff, reduceCtorEq, Int.reduceNeg, Int.reduceEq, String.reduceEq, Int.reduceLT, Int.reduceLE, Int.reduceToNat, Int.reduceAdd, Int.reduceMul, Int.reduceSub])
  have hm : (4 : Nat) ≤ maxLen := by decide
  refine ⟨fun h => by simp [hfPlace, h], fun h => ⟨⟨hl, hm⟩, fun h2 => ?_, fun h2 => ?_⟩⟩
  · rw [hfPlace, if_neg h, if_pos (show hasF l nmHost = true from h2)]; rfl
  · rw [hfPlace, if_neg h, if_neg (by rw [show nmHost = [72, 111, 115, 116] from rfl, h2]; simp)]
def tb_specPlace : List Blk → List AV → Option (List Blk × AV × Prop)
  | [], [a0, .agg [.int .i64 fo, .str a, .str p], .str au] => some ([], .str (hfPlace (dec_flds a0) fo a au), ((dec_flds a0).length ≤ 1000) ∧ argOK a0 (enc_flds (dec_flds a0)))
  | _, _ => none
theorem tb_specPlace_ok : ∀ E args E' res p, tb_specPlace E args = some (E', res, p) → p → SpecE Try.prog 80 E args E' res := by
  intro E args E' res p h hp
  unfold tb_specPlace at h
  split at h
  · simp only [Option.some.injEq, Prod.mk.injEq] at h
    obtain ⟨rfl, rfl, rfl⟩ := h
    exact SpecE.args (specPlace _ _ _ _ _ hp.1) (.cons hp.2 (.cons (argOK.refl _) (.cons (argOK.refl _) .nil)))
  · cases h

def T_specKey : Tbl := fun g E args => (addT (addT nilT 80 Go.Proofs.Try.Hfx.tb_specPlace) 45 Go.Proofs.Try.Host.tb_specKey) g E args
theorem T_specKey_ok : TblOK Try.prog T_specKey := (addT_ok (addT_ok nilT_ok (by decide +kernel) Go.Proofs.Try.Hfx.tb_specPlace_ok) (by decide +kernel) Go.Proofs.Try.Host.tb_specKey_ok)
set_option maxRecDepth 100000 in
set_option maxHeartbeats 4000000 in
theorem specKey (l : List Fld) (fo : Int) (a p au : List UInt8) (hl : l.length ≤ 1000) (hq : ∀ f ∈ l, f.2.length ≤ 1000) (ha : a.length ≤ 1000) (hau : au.length ≤ 1000) : SpecE Try.prog 82 [] [enc_flds l, .agg [.int .i64 fo, .str a, .str p], .str au] [] (.str (hostKey (hfPlace l fo a au))) := by
  refine specF0 (C := T_specKey) (wr := false) (D := fun _ => []) (U := fun _ => none) (res := [.str (hostKey (hfPlace l fo a au))]) Try.Ty.mixed T_specKey_ok Try.func82 (nA := 3) (by decide +kernel) rfl (fun _ => rfl) ?_
  simp only [Try.f82, bodyOf, rlOf]
  rw [W_V]
  simp (config := {maxSteps := 2000000}) only [T_specKey, Go.Proofs.Try.Hfx.tb_specPlace, Go.Proofs.Try.Host.tb_specKey, go_sem, reduceIte, Nat.reduceEqDiff, Nat.reduceAdd, Nat.reduceMul, Nat.reduceSub, Nat.reduceBEq, Nat.reduceLT, Nat.reduceLeDiff, reduceCtorEq, Int.reduceNeg, Int.reduceEq, String.reduceEq, Int.reduceLT, Int.reduceLE, Int.reduceToNat, Int.reduceAdd, Int.reduceMul, Int.reduceSub]
  (try simp (config := {maxSteps := 2000000}) only [gimp, impB, isT, go_sem, reduceIte, Nat.reduceEqDiff, Nat.reduceAdd, Nat.reduceMul, Nat.reduceSub, Nat.reduceBEq, Nat.reduceLT, Nat.reduceLeDiff, reduceCtorEq, Int.reduceNeg, Int.reduceEq, String.reduceEq, Int.reduceLT, Int.reduceLE, Int.reduceToNat, Int.reduceAdd, Int.reduceMul, Int.reduceSub])
  have := hfPlace_len (fo := fo) hq ha hau
  exact ⟨hl, by omega⟩
def tb_specKey : List Blk → List AV → Option (List Blk × AV × Prop)
  | [], [a0, .agg [.int .i64 fo, .str a, .str p], .str au] => some ([], .str (hostKey (hfPlace (dec_flds a0) fo a au)), ((dec_flds a0).length ≤ 1000) ∧ (∀ f ∈ (dec_flds a0), f.2.length ≤ 1000) ∧ (a.length ≤ 1000) ∧ (au.length ≤ 1000) ∧ argOK a0 (enc_flds (dec_flds a0)))
  | _, _ => none
theorem tb_specKey_ok : ∀ E args E' res p, tb_specKey E args = some (E', res, p) → p → SpecE Try.prog 82 E args E' res := by
  intro E args E' res p h hp
  unfold tb_specKey at h
  split at h
  · simp only [Option.some.injEq, Prod.mk.injEq] at h
    obtain ⟨rfl, rfl, rfl⟩ := h
    exact SpecE.args (specKey _ _ _ _ _ hp.1 hp.2.1 hp.2.2.1 hp.2.2.2.1) (.cons hp.2.2.2.2 (.cons (argOK.refl _) (.cons (argOK.refl _) .nil)))
  · cases h

def T_specFix : Tbl := fun g E args => (addT (addT (addT (addT nilT 80 Go.Proofs.Try.Hfx.tb_specPlace) 43 Go.Proofs.Try.Host.tb_specParse) 88 Go.Proofs.Try.Hdr.tb_specWithout) 182 Go.Proofs.Try.Hdr.tb_specSet) g E args
theorem T_specFix_ok : TblOK Try.prog T_specFix := (addT_ok (addT_ok (addT_ok (addT_ok nilT_ok (by decide +kernel) Go.Proofs.Try.Hfx.tb_specPlace_ok) (by decide +kernel) Go.Proofs.Try.Host.tb_specParse_ok) (by decide +kernel) Go.Proofs.Try.Hdr.tb_specWithout_ok) (by decide +kernel) Go.Proofs.Try.Hdr.tb_specSet_ok)
set_option maxRecDepth 100000 in
set_option maxHeartbeats 4000000 in
theorem specFix (l : List Fld) (fo ver : Int) (a p au : List UInt8) (hl : l.length ≤ 1000) (hq : ∀ f ∈ l, f.2.length ≤ 1000) (ha : a.length ≤ 1000) (hau : au.length ≤ 1000) : SpecE Try.prog 78 [] [enc_flds l, .agg [.int .i64 fo, .str a, .str p], .str au, .int .i64 ver] [] (.tuple [enc_flds (hfFix l (hfPlace l fo a au) ver), .int .i64 (hfErr (hfPlace l fo a au) ver)]) := by
  refine specF0 (C := T_specFix) (wr := false) (D := fun _ => []) (U := fun _ => none) (res := [enc_flds (hfFix l (hfPlace l fo a au) ver), .int .i64 (hfErr (hfPlace l fo a au) ver)]) Try.Ty.mixed T_specFix_ok Try.func78 (nA := 4) (by decide +kernel) rfl (fun _ => rfl) ?_
  simp only [Try.f78, bodyOf, rlOf]
  rw [W_V]
  simp (config := {maxSteps := 2000000}) only [T_specFix, Go.Proofs.Try.Hfx.tb_specPlace, Go.Proofs.Try.Host.tb_specParse, Go.Proofs.Try.Hdr.tb_specWithout, Go.Proofs.Try.Hdr.tb_specSet, go_sem, reduceIte, Nat.reduceEqDiff, Nat.reduceAdd, Nat.reduceMul, Nat.reduceSub, Nat.reduceBEq, Nat.reduceLT, Nat.reduceLeDiff, reduceCtorEq, Int.reduceNeg, Int.reduceEq, String.reduceEq, Int.reduceLT, Int.reduceLE, Int.reduceToNat, Int.reduceAdd, Int.reduceMul, Int.reduceSub, true_and]
  (try simp (config := {maxSteps := 2000000}) only [gimp, impB, isT, go_sem, reduceIte, Nat.reduceEqDiff, Nat.reduceAdd, Nat.reduceMul, Nat.reduceSub, Nat.reduceBEq, Nat.reduceLT, Nat.reduceLeDiff, reduceCtorEq, Int.reduceNeg, Int.reduceEq, String.reduceEq, Int.reduceLT, Int.reduceLE, Int.reduceToNat, Int.reduceAdd, Int.reduceMul, Int.reduceSub])
  have hpl := hfPlace_len (fo := fo) hq ha hau
  generalize hfPlace l fo a au = s at *
  have hm : (4 : Nat) ≤ maxLen := by decide
  have hn0 : (decide (0 < ver) && !decide (hostErr s = 0)) = hfBad s ver := rfl
  refine ⟨hl, by omega, fun h1 h2 => ?_, fun h => ⟨fun h2 => ⟨⟨by omega, by decide, hm⟩, ⟨?_, ?_⟩, ?_⟩, fun h2 => ⟨⟨by omega, hm⟩, ?_⟩⟩⟩
  · have hb : hfBad s ver = true := by rw [← hn0, decide_eq_true h1, decide_eq_false h2]; rfl
    simp [hfFix, hfErr, hb]
  · rw [hn0] at h
    rw [hfFix, h, if_neg (by simp), if_pos h2]
    exact congrArg _ (delP_take _ _ _)
  · rw [delP_len]
  · rw [hn0] at h
    rw [hfErr, h]; rfl
  · rw [hn0] at h
    rw [List.take_length, hfFix, hfErr, h, if_neg (by simp), if_neg h2]; exact ⟨rfl, rfl⟩
def tb_specFix : List Blk → List AV → Option (List Blk × AV × Prop)
  | [], [a0, .agg [.int .i64 fo, .str a, .str p], .str au, .int .i64 ver] => some ([], .tuple [enc_flds (hfFix (dec_flds a0) (hfPlace (dec_flds a0) fo a au) ver), .int .i64 (hfErr (hfPlace (dec_flds a0) fo a au) ver)], ((dec_flds a0).length ≤ 1000) ∧ (∀ f ∈ (dec_flds a0), f.2.length ≤ 1000) ∧ (a.length ≤ 1000) ∧ (au.length ≤ 1000) ∧ argOK a0 (enc_flds (dec_flds a0)))
  | _, _ => none
theorem tb_specFix_ok : ∀ E args E' res p, tb_specFix E args = some (E', res, p) → p → SpecE Try.prog 78 E args E' res := by
  intro E args E' res p h hp
  unfold tb_specFix at h
  split at h
  · simp only [Option.some.injEq, Prod.mk.injEq] at h
    obtain ⟨rfl, rfl, rfl⟩ := h
    exact SpecE.args (specFix _ _ _ _ _ _ hp.1 hp.2.1 hp.2.2.1 hp.2.2.2.1) (.cons hp.2.2.2.2 (.cons (argOK.refl _) (.cons (argOK.refl _) (.cons (argOK.refl _) .nil))))
  · cases h

def T_specPlaceR : Tbl := fun g E args => (addT nilT 185 Go.Proofs.Try.HdrR.tb_specAll) g E args
theorem T_specPlaceR_ok : TblOK Try.prog T_specPlaceR := (addT_ok nilT_ok (by decide +kernel) Go.Proofs.Try.HdrR.tb_specAll_ok)
set_option maxRecDepth 100000 in
set_option maxHeartbeats 4000000 in
theorem specPlaceR (l : List Fld) (fo : Int) (a p au : List UInt8) (hl : l.length ≤ 1000) (hf : ∀ f ∈ l, f.1.length ≤ 1000000) : SpecE Try.prog 81 [] [enc_flds l, .agg [.int .i64 fo, .str a, .str p], .str au] [] (.str (hfPlace l fo a au)) := by
  refine specF0 (C := T_specPlaceR) (wr := false) (D := fun _ => []) (U := fun _ => none) (res := [.str (hfPlace l fo a au)]) Try.Ty.mixed T_specPlaceR_ok Try.func81 (nA := 3) (by decide +kernel) rfl (fun _ => rfl) ?_
  simp only [Try.f81, bodyOf, rlOf]
  rw [W_V]
  simp (config := {maxSteps := 2000000}) only [T_specPlaceR, Go.Proofs.Try.HdrR.tb_specAll, go_sem, reduceIte, Nat.reduceEqDiff, Nat.reduceAdd, Nat.reduceMul, Nat.reduceSub, Nat.reduceBEq, Nat.reduceLT, Nat.reduceLeDiff, reduceCtorEq, Int.reduceNeg, Int.reduceEq, String.reduceEq, Int.reduceLT, Int.reduceLE, Int.reduceToNat, Int.reduceAdd, Int.reduceMul, Int.reduceSub]
  (try simp (config := {maxSteps := 2000000}) only [gimp, impB, isT, go_sem, reduceIte, Nat.reduceEqDiff, Nat.reduceAdd, Nat.reduceMul, Nat.reduceSub, Nat.reduceBEq, Nat.reduceLT, Nat.reduceLeDiff, reduceCtorEq, Int.reduceNeg, Int.reduceEq, String.reduceEq, Int.reduceLT, Int.reduceLE, Int.reduceToNat, Int.reduceAdd, Int.reduceMul, Int.reduceSub])
  have hH := hasF_iff l nmHost
  refine ⟨fun h => by simp [hfPlace, h], fun h => ⟨⟨by omega, hf⟩, fun h2 => ⟨h2, ?_⟩, fun h2 => ?_⟩⟩
  · have hne : allS l nmHost ≠ [] := List.length_pos_iff.1 (by have : 0 < ((allS l nmHost).length : Int) := h2; omega)
    rw [hfPlace, if_neg h, if_pos (by rw [hH, decide_eq_false hne]; rfl), getS]
    show (allS l nmHost).getD 0 [] = _
    cases hh : allS l nmHost with
    | nil => exact absurd hh hne
    | cons x r => rfl
  · have hne : allS l nmHost = [] := List.length_eq_zero_iff.1 (by have : ((allS l nmHost).length : Int) ≤ 0 := h2; omega)
    rw [hfPlace, if_neg h, if_neg (by rw [hH, decide_eq_true hne]; simp)]
def tb_specPlaceR : List Blk → List AV → Option (List Blk × AV × Prop)
  | [], [a0, .agg [.int .i64 fo, .str a, .str p], .str au] => some ([], .str (hfPlace (dec_flds a0) fo a au), ((dec_flds a0).length ≤ 1000) ∧ (∀ f ∈ (dec_flds a0), f.1.length ≤ 1000000) ∧ argOK a0 (enc_flds (dec_flds a0)))
  | _, _ => none
theorem tb_specPlaceR_ok : ∀ E args E' res p, tb_specPlaceR E args = some (E', res, p) → p → SpecE Try.prog 81 E args E' res := by
  intro E args E' res p h hp
  unfold tb_specPlaceR at h
  split at h
  · simp only [Option.some.injEq, Prod.mk.injEq] at h
    obtain ⟨rfl, rfl, rfl⟩ := h
    exact SpecE.args (specPlaceR _ _ _ _ _ hp.1 hp.2.1) (.cons hp.2.2 (.cons (argOK.refl _) (.cons (argOK.refl _) .nil)))
  · cases h

def T_specKeyR : Tbl := fun g E args => (addT (addT nilT 81 Go.Proofs.Try.Hfx.tb_specPlaceR) 46 Go.Proofs.Try.Host.tb_specKeyR) g E args
theorem T_specKeyR_ok : TblOK Try.prog T_specKeyR := (addT_ok (addT_ok nilT_ok (by decide +kernel) Go.Proofs.Try.Hfx.tb_specPlaceR_ok) (by decide +kernel) Go.Proofs.Try.Host.tb_specKeyR_ok)
set_option maxRecDepth 100000 in
set_option maxHeartbeats 4000000 in
theorem specKeyR (l : List Fld) (fo : Int) (a p au : List UInt8) (hl : l.length ≤ 1000) (hf : ∀ f ∈ l, f.1.length ≤ 1000000) (hq : ∀ f ∈ l, f.2.length ≤ 1000) (ha : a.length ≤ 1000) (hau : au.length ≤ 1000) : SpecE Try.prog 83 [] [enc_flds l, .agg [.int .i64 fo, .str a, .str p], .str au] [] (.str (hostKey (hfPlace l fo a au))) := by
  refine specF0 (C := T_specKeyR) (wr := false) (D := fun _ => []) (U := fun _ => none) (res := [.str (hostKey (hfPlace l fo a au))]) Try.Ty.mixed T_specKeyR_ok Try.func83 (nA := 3) (by decide +kernel) rfl (fun _ => rfl) ?_
  simp only [Try.f83, bodyOf, rlOf]
  rw [W_V]
  simp (config := {maxSteps := 2000000}) only [T_specKeyR, Go.Proofs.Try.Hfx.tb_specPlaceR, Go.Proofs.Try.Host.tb_specKeyR, go_sem, reduceIte, Nat.reduceEqDiff, Nat.reduceAdd, Nat.reduceMul, Nat.reduceSub, Nat.reduceBEq, Nat.reduceLT, Nat.reduceLeDiff, reduceCtorEq, Int.reduceNeg, Int.reduceEq, String.reduceEq, Int.reduceLT, Int.reduceLE, Int.reduceToNat, Int.reduceAdd, Int.reduceMul, Int.reduceSub]
  (try simp (config := {maxSteps := 2000000}) only [gimp, impB, isT, go_sem, reduceIte, Nat.reduceEqDiff, Nat.reduceAdd, Nat.reduceMul, Nat.reduceSub, Nat.reduceBEq, Nat.reduceLT, Nat.reduceLeDiff, reduceCtorEq, Int.reduceNeg, Int.reduceEq, String.reduceEq, Int.reduceLT, Int.reduceLE, Int.reduceToNat, Int.reduceAdd, Int.reduceMul, Int.reduceSub])
  have := hfPlace_len (fo := fo) hq ha hau
  exact ⟨⟨hl, hf⟩, by omega⟩
def tb_specKeyR : List Blk → List AV → Option (List Blk × AV × Prop)
  | [], [a0, .agg [.int .i64 fo, .str a, .str p], .str au] => some ([], .str (hostKey (hfPlace (dec_flds a0) fo a au)), ((dec_flds a0).length ≤ 1000) ∧ (∀ f ∈ (dec_flds a0), f.1.length ≤ 1000000) ∧ (∀ f ∈ (dec_flds a0), f.2.length ≤ 1000) ∧ (a.length ≤ 1000) ∧ (au.length ≤ 1000) ∧ argOK a0 (enc_flds (dec_flds a0)))
  | _, _ => none
theorem tb_specKeyR_ok : ∀ E args E' res p, tb_specKeyR E args = some (E', res, p) → p → SpecE Try.prog 83 E args E' res := by
  intro E args E' res p h hp
  unfold tb_specKeyR at h
  split at h
  · simp only [Option.some.injEq, Prod.mk.injEq] at h
    obtain ⟨rfl, rfl, rfl⟩ := h
    exact SpecE.args (specKeyR _ _ _ _ _ hp.1 hp.2.1 hp.2.2.1 hp.2.2.2.1 hp.2.2.2.2.1) (.cons hp.2.2.2.2.2 (.cons (argOK.refl _) (.cons (argOK.refl _) .nil)))
  · cases h

def T_specFixR : Tbl := fun g E args => (addT (addT (addT (addT nilT 81 Go.Proofs.Try.Hfx.tb_specPlaceR) 44 Go.Proofs.Try.Host.tb_specParseR) 181 Go.Proofs.Try.HdrR.tb_specWithoutR) 183 Go.Proofs.Try.HdrR.tb_specSetR) g E args
theorem T_specFixR_ok : TblOK Try.prog T_specFixR := (addT_ok (addT_ok (addT_ok (addT_ok nilT_ok (by decide +kernel) Go.Proofs.Try.Hfx.tb_specPlaceR_ok) (by decide +kernel) Go.Proofs.Try.Host.tb_specParseR_ok) (by decide +kernel) Go.Proofs.Try.HdrR.tb_specWithoutR_ok) (by decide +kernel) Go.Proofs.Try.HdrR.tb_specSetR_ok)
set_option maxRecDepth 100000 in
set_option maxHeartbeats 4000000 in
theorem specFixR (l : List Fld) (fo ver : Int) (a p au : List UInt8) (hl : l.length ≤ 1000) (hf : ∀ f ∈ l, f.1.length ≤ 1000000) (hq : ∀ f ∈ l, f.2.length ≤ 1000) (ha : a.length ≤ 1000) (hau : au.length ≤ 1000) : SpecE Try.prog 79 [] [enc_flds l, .agg [.int .i64 fo, .str a, .str p], .str au, .int .i64 ver] [] (.tuple [enc_flds (hfFix l (hfPlace l fo a au) ver), .int .i64 (hfErr (hfPlace l fo a au) ver)]) := by
  refine specF0 (C := T_specFixR) (wr := false) (D := fun _ => []) (U := fun _ => none) (res := [enc_flds (hfFix l (hfPlace l fo a au) ver), .int .i64 (hfErr (hfPlace l fo a au) ver)]) Try.Ty.mixed T_specFixR_ok Try.func79 (nA := 4) (by decide +kernel) rfl (fun _ => rfl) ?_
  simp only [Try.f79, bodyOf, rlOf]
  rw [W_V]
  simp (config := {maxSteps := 2000000}) only [T_specFixR, Go.Proofs.Try.Hfx.tb_specPlaceR, Go.Proofs.Try.Host.tb_specParseR, Go.Proofs.Try.HdrR.tb_specWithoutR, Go.Proofs.Try.HdrR.tb_specSetR, go_sem, reduceIte, Nat.reduceEqDiff, Nat.reduceAdd, Nat.reduceMul, Nat.reduceSub, Nat.reduceBEq, Nat.reduceLT, Nat.reduceLeDiff, reduceCtorEq, Int.reduceNeg, Int.reduceEq, String.reduceEq, Int.reduceLT, Int.reduceLE, Int.reduceToNat, Int.reduceAdd, Int.reduceMul, Int.reduceSub]
  (try simp (config := {maxSteps := 2000000}) only [gimp, impB, isT, go_sem, reduceIte, Nat.reduceEqDiff, Nat.reduceAdd, Nat.reduceMul, Nat.reduceSub, Nat.reduceBEq, Nat.reduceLT, Nat.reduceLeDiff, reduceCtorEq, Int.reduceNeg, Int.reduceEq, String.reduceEq, Int.reduceLT, Int.reduceLE, Int.reduceToNat, Int.reduceAdd, Int.reduceMul, Int.reduceSub])
  have hpl := hfPlace_len (fo := fo) hq ha hau
  generalize hfPlace l fo a au = s at *
  have hm : (4 : Nat) ≤ maxLen := by decide
  have hn0 : (decide (0 < ver) && !decide (hostErr s = 0)) = hfBad s ver := rfl
  refine ⟨⟨hl, hf⟩, by omega, fun h1 h2 => ?_, fun h => ⟨fun h2 => ⟨⟨by omega, hf⟩, ?_⟩, fun h2 => ⟨⟨by omega, hf⟩, ?_⟩⟩⟩
  · have hb : hfBad s ver = true := by rw [← hn0, decide_eq_true h1, decide_eq_false h2]; rfl
    simp [hfFix, hfErr, hb]
  · rw [hn0] at h
    rw [hfFix, hfErr, h, if_neg (by simp), if_pos h2]; exact ⟨rfl, rfl⟩
  · rw [hn0] at h
    rw [hfFix, hfErr, h, if_neg (by simp), if_neg h2]; exact ⟨rfl, rfl⟩
def tb_specFixR : List Blk → List AV → Option (List Blk × AV × Prop)
  | [], [a0, .agg [.int .i64 fo, .str a, .str p], .str au, .int .i64 ver] => some ([], .tuple [enc_flds (hfFix (dec_flds a0) (hfPlace (dec_flds a0) fo a au) ver), .int .i64 (hfErr (hfPlace (dec_flds a0) fo a au) ver)], ((dec_flds a0).length ≤ 1000) ∧ (∀ f ∈ (dec_flds a0), f.1.length ≤ 1000000) ∧ (∀ f ∈ (dec_flds a0), f.2.length ≤ 1000) ∧ (a.length ≤ 1000) ∧ (au.length ≤ 1000) ∧ argOK a0 (enc_flds (dec_flds a0)))
  | _, _ => none
theorem tb_specFixR_ok : ∀ E args E' res p, tb_specFixR E args = some (E', res, p) → p → SpecE Try.prog 79 E args E' res := by
  intro E args E' res p h hp
  unfold tb_specFixR at h
  split at h
  · simp only [Option.some.injEq, Prod.mk.injEq] at h
    obtain ⟨rfl, rfl, rfl⟩ := h
    exact SpecE.args (specFixR _ _ _ _ _ _ hp.1 hp.2.1 hp.2.2.1 hp.2.2.2.1 hp.2.2.2.2.1) (.cons hp.2.2.2.2.2 (.cons (argOK.refl _) (.cons (argOK.refl _) (.cons (argOK.refl _) .nil))))
  · cases h
end Go.Proofs.Try.Hfx
