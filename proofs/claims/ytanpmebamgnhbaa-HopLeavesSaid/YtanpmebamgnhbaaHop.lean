/- hop: the walks of the program. No condition beyond those that a machine's numbers bring. -/
import Derived.Test.YtanpmebamgnhbaaHopM
import Derived.Test.YtanpmebamgnhbaaCon
import Derived.Test.YtanpmebamgnhbaaSlcH
set_option linter.unusedVariables false
set_option linter.unusedSimpArgs false
namespace Go.Mdl
open Go Go.Abs
theorem hopN_len {l : List Fld} (hl : l.length ≤ 1000) (hq : ∀ f ∈ l, f.2.length ≤ 50000) : (hopN l).length ≤ 50002008 ∧ ∀ x ∈ hopN l, x.length ≤ 50002000 := by
  have h1 := wordsS_count (combS l nmConnection)
  have h2 := comb_len2 nmConnection hl hq
  have h3 := List.length_filter_le (fun w => !hopStays w) (conW l)
  have h0 : (conW l).length = (wordsS (combS l nmConnection)).length := rfl
  refine ⟨?_, fun x hx => ?_⟩
  · simp only [hopN, List.length_append]
    have : hopAlways.length = 7 := rfl
    omega
  · simp only [hopN, List.mem_append, List.mem_filter] at hx
    rcases hx with hx | ⟨hx, _⟩
    · revert x; decide
    · have := wordsS_len (s := combS l nmConnection) hx; omega
theorem hopN_len3 {l : List Fld} (hl : l.length ≤ 1000) (hq : ∀ f ∈ l, f.2.length ≤ 900) : (hopN l).length ≤ 902010 ∧ ∀ x ∈ hopN l, x.length ≤ 902000 := by
  have h1 := wordsS_count (combS l nmConnection)
  have h2 := comb_len3 nmConnection hl hq
  have h3 := List.length_filter_le (fun w => !hopStays w) (conW l)
  have h0 : (conW l).length = (wordsS (combS l nmConnection)).length := rfl
  refine ⟨?_, fun x hx => ?_⟩
  · simp only [hopN, List.length_append]
    have : hopAlways.length = 7 := rfl
    omega
  · simp only [hopN, List.mem_append, List.mem_filter] at hx
    rcases hx with hx | ⟨hx, _⟩
    · revert x; decide
    · have := wordsS_len (s := combS l nmConnection) hx; omega
end Go.Mdl
namespace Go.Proofs.Try.Con
open Go Go.Abs Go.Proofs Go.Mdl

def T_specWordsN : Tbl := fun g E args => (addT (addT (addT (addT nilT 198 Go.Proofs.Try.Hdr.tb_specCombined) 35 Go.Proofs.Try.Lists.tb_specSplitO) 145 Go.Proofs.Try.Con.tb_specWordsHas) 152 Go.Proofs.Try.Oct.tb_specLower) g E args
theorem T_specWordsN_ok : TblOK Try.prog T_specWordsN := (addT_ok (addT_ok (addT_ok (addT_ok nilT_ok (by decide +kernel) Go.Proofs.Try.Hdr.tb_specCombined_ok) (by decide +kernel) Go.Proofs.Try.Lists.tb_specSplitO_ok) (by decide +kernel) Go.Proofs.Try.Con.tb_specWordsHas_ok) (by decide +kernel) Go.Proofs.Try.Oct.tb_specLower_ok)
set_option maxRecDepth 100000 in
set_option maxHeartbeats 4000000 in
theorem specWordsN (l : List Fld) (hl : l.length ≤ 1000) (hq : ∀ f ∈ l, f.2.length ≤ 50000) (hcon : conOk l = false) : SpecE Try.prog 128 [] [enc_flds l] [] (.tuple [.nils, .int .i64 3]) := by
  refine specF0 (C := T_specWordsN) (wr := false) (D := fun _ => []) (U := fun _ => none) (res := [.nils, .int .i64 3]) Try.Ty.mixed T_specWordsN_ok Try.func128 (nA := 1) (by decide +kernel) rfl (fun _ => rfl) ?_
  simp only [Try.f128, bodyOf, rlOf]
  rw [W_V]
  simp (config := {maxSteps := 2000000}) only [T_specWordsN, Go.Proofs.Try.Hdr.tb_specCombined, Go.Proofs.Try.Lists.tb_specSplitO, Go.Proofs.Try.Con.tb_specWordsHas, Go.Proofs.Try.Oct.tb_specLower, go_sem, reduceIte, Nat.reduceEqDiff, Nat.reduceAdd, Nat.reduceMul, Nat.reduceSub, Nat.reduceBEq, Nat.reduceLT, Nat.reduceLeDiff, reduceCtorEq, Int.reduceNeg, Int.reduceEq, String.reduceEq, Int.reduceLT, Int.reduceLE, Int.reduceToNat, Int.reduceAdd, Int.reduceMul, Int.reduceSub]
  (try simp (config := {maxSteps := 2000000}) only [gimp, impB, isT, go_sem, reduceIte, Nat.reduceEqDiff, Nat.reduceAdd, Nat.reduceMul, Nat.reduceSub, Nat.reduceBEq, Nat.reduceLT, Nat.reduceLeDiff, reduceCtorEq, Int.reduceNeg, Int.reduceEq, String.reduceEq, Int.reduceLT, Int.reduceLE, Int.reduceToNat, Int.reduceAdd, Int.reduceMul, Int.reduceSub])
  have hm : (50000000 : Nat) ≤ maxLen := by decide
  have hcomb : (combS l [67, 111, 110, 110, 101, 99, 116, 105, 111, 110]).length ≤ 50002000 := by
    have h3 := allS_len l [67, 111, 110, 110, 101, 99, 116, 105, 111, 110]
    have h4 := joinS_len (l := allS l [67, 111, 110, 110, 101, 99, 116, 105, 111, 110]) (m := 50000) (fun e he => by obtain ⟨f, hf, rfl, _⟩ := allS_mem he; exact hq f hf)
    have h5 := Nat.mul_le_mul (show (allS l [67, 111, 110, 110, 101, 99, 116, 105, 111, 110]).length ≤ 1000 by omega) (Nat.le_refl (50000 + 2))
    unfold combS; omega
  have hW : conW l = wordsS (combS l [67, 111, 110, 110, 101, 99, 116, 105, 111, 110]) := rfl
  have hE : conE l = if wordsOk (combS l [67, 111, 110, 110, 101, 99, 116, 105, 111, 110]) = true then 0 else 3 := rfl
  have hO : conOk l = wordsOk (combS l [67, 111, 110, 110, 101, 99, 116, 105, 111, 110]) := rfl
  generalize combS l [67, 111, 110, 110, 101, 99, 116, 105, 111, 110] = s at *
  have hm2 : (100000001 : Nat) ≤ maxLen := by decide
  have hcnt := splitS_count s
  have hsm : ∀ e ∈ splitS s, e.length ≤ s.length := fun e he => (splitS_mem he).1
  rw [List.take_length]
  have hany : ((splitS s).any fun w => !tokenS w) = !((splitS s).all tokenS) := by rw [List.all_eq_not_any_not, Bool.not_not]
  rw [hany]
  refine ⟨⟨hl, by decide, fun f hf => by have := hq f hf; omega⟩, by omega, fun _ => by omega, fun hend hall => ?_⟩
  exfalso
  have hok : wordsOk s = true := by
    rw [Bool.not_eq_false'] at hall
    simp [wordsOk, hend, hall]
  rw [hO, hok] at hcon; cases hcon
def tb_specWordsN : List Blk → List AV → Option (List Blk × AV × Prop)
  | [], [a0] => some ([], .tuple [.nils, .int .i64 3], ((dec_flds a0).length ≤ 1000) ∧ (∀ f ∈ (dec_flds a0), f.2.length ≤ 50000) ∧ (conOk (dec_flds a0) = false) ∧ argOK a0 (enc_flds (dec_flds a0)))
  | _, _ => none
theorem tb_specWordsN_ok : ∀ E args E' res p, tb_specWordsN E args = some (E', res, p) → p → SpecE Try.prog 128 E args E' res := by
  intro E args E' res p h hp
  unfold tb_specWordsN at h
  split at h
  · simp only [Option.some.injEq, Prod.mk.injEq] at h
    obtain ⟨rfl, rfl, rfl⟩ := h
    exact SpecE.args (specWordsN _ hp.1 hp.2.1 hp.2.2.1) (.cons hp.2.2.2 .nil)
  · cases h
end Go.Proofs.Try.Con
namespace Go.Proofs.Try.Hop
open Go Go.Abs Go.Proofs Go.Mdl

def T_specHeld : Tbl := fun g E args => nilT g E args
theorem T_specHeld_ok : TblOK Try.prog T_specHeld := nilT_ok
set_option maxRecDepth 100000 in
set_option maxHeartbeats 4000000 in
theorem specHeld : SpecE Try.prog 176 [] [] [] (.agg (hopHeld.map .str)) := by
  refine specF0 (C := T_specHeld) (wr := false) (D := fun _ => []) (U := fun _ => none) (res := [.agg (hopHeld.map .str)]) Try.Ty.mixed T_specHeld_ok Try.func176 (nA := 0) (by decide +kernel) rfl (fun _ => rfl) ?_
  simp only [Try.f176, bodyOf, rlOf]
  rw [W_V]
  simp (config := {maxSteps := 2000000}) only [T_specHeld, go_sem, reduceIte, Nat.reduceEqDiff, Nat.reduceAdd, Nat.reduceMul, Nat.reduceSub, Nat.reduceBEq, Nat.reduceLT, Nat.reduceLeDiff, reduceCtorEq, Int.reduceNeg, Int.reduceEq, String.reduceEq, Int.reduceLT, Int.reduceLE, Int.reduceToNat, Int.reduceAdd, Int.reduceMul, Int.reduceSub, hopHeld]
  (try simp (config := {maxSteps := 2000000}) only [gimp, impB, isT, go_sem, reduceIte, Nat.reduceEqDiff, Nat.reduceAdd, Nat.reduceMul, Nat.reduceSub, Nat.reduceBEq, Nat.reduceLT, Nat.reduceLeDiff, reduceCtorEq, Int.reduceNeg, Int.reduceEq, String.reduceEq, Int.reduceLT, Int.reduceLE, Int.reduceToNat, Int.reduceAdd, Int.reduceMul, Int.reduceSub])
def tb_specHeld : List Blk → List AV → Option (List Blk × AV × Prop)
  | [], [] => some ([], .agg (hopHeld.map .str), True)
  | _, _ => none
theorem tb_specHeld_ok : ∀ E args E' res p, tb_specHeld E args = some (E', res, p) → p → SpecE Try.prog 176 E args E' res := by
  intro E args E' res p h hp
  unfold tb_specHeld at h
  split at h
  · simp only [Option.some.injEq, Prod.mk.injEq] at h
    obtain ⟨rfl, rfl, rfl⟩ := h
    exact specHeld
  · cases h

def T_specAlways : Tbl := fun g E args => nilT g E args
theorem T_specAlways_ok : TblOK Try.prog T_specAlways := nilT_ok
set_option maxRecDepth 100000 in
set_option maxHeartbeats 4000000 in
theorem specAlways : SpecE Try.prog 179 [] [] [] (.agg (hopAlways.map .str)) := by
  refine specF0 (C := T_specAlways) (wr := false) (D := fun _ => []) (U := fun _ => none) (res := [.agg (hopAlways.map .str)]) Try.Ty.mixed T_specAlways_ok Try.func179 (nA := 0) (by decide +kernel) rfl (fun _ => rfl) ?_
  simp only [Try.f179, bodyOf, rlOf]
  rw [W_V]
  simp (config := {maxSteps := 2000000}) only [T_specAlways, go_sem, reduceIte, Nat.reduceEqDiff, Nat.reduceAdd, Nat.reduceMul, Nat.reduceSub, Nat.reduceBEq, Nat.reduceLT, Nat.reduceLeDiff, reduceCtorEq, Int.reduceNeg, Int.reduceEq, String.reduceEq, Int.reduceLT, Int.reduceLE, Int.reduceToNat, Int.reduceAdd, Int.reduceMul, Int.reduceSub, hopAlways]
  (try simp (config := {maxSteps := 2000000}) only [gimp, impB, isT, go_sem, reduceIte, Nat.reduceEqDiff, Nat.reduceAdd, Nat.reduceMul, Nat.reduceSub, Nat.reduceBEq, Nat.reduceLT, Nat.reduceLeDiff, reduceCtorEq, Int.reduceNeg, Int.reduceEq, String.reduceEq, Int.reduceLT, Int.reduceLE, Int.reduceToNat, Int.reduceAdd, Int.reduceMul, Int.reduceSub])
def tb_specAlways : List Blk → List AV → Option (List Blk × AV × Prop)
  | [], [] => some ([], .agg (hopAlways.map .str), True)
  | _, _ => none
theorem tb_specAlways_ok : ∀ E args E' res p, tb_specAlways E args = some (E', res, p) → p → SpecE Try.prog 179 E args E' res := by
  intro E args E' res p h hp
  unfold tb_specAlways at h
  split at h
  · simp only [Option.some.injEq, Prod.mk.injEq] at h
    obtain ⟨rfl, rfl, rfl⟩ := h
    exact specAlways
  · cases h

def T_specFoldN : Tbl := fun g E args => (addT nilT 85 Go.Proofs.Try.Oct.tb_specFold) g E args
theorem T_specFoldN_ok : TblOK Try.prog T_specFoldN := (addT_ok nilT_ok (by decide +kernel) Go.Proofs.Try.Oct.tb_specFold_ok)
set_option maxRecDepth 100000 in
set_option maxHeartbeats 4000000 in
theorem specFoldN (s w : List UInt8) (hs : s.length ≤ maxLen) : SpecE Try.prog 178 [.cells 1 false (.str []) [.str w]] [.str s, .ptr 0 0 0 1] [.cells 1 false (.str []) [.str w]] (.bool (foldS s w)) := by
  refine specFE (C := T_specFoldN) (wr := false) (D := fun _ => []) (U := fun _ => none) (E := [.cells 1 false (.str []) [.str w]]) (E' := [.cells 1 false (.str []) [.str w]]) (res := [.bool (foldS s w)]) [] Try.Ty.mixed T_specFoldN_ok Try.func178 (nE := 1) (nA := 2) (by decide +kernel) rfl rfl ?_
  simp only [Try.f178, bodyOf, rlOf]
  rw [W_V]
  simp (config := {maxSteps := 2000000}) only [T_specFoldN, Go.Proofs.Try.Oct.tb_specFold, go_sem, reduceIte, Nat.reduceEqDiff, Nat.reduceAdd, Nat.reduceMul, Nat.reduceSub, Nat.reduceBEq, Nat.reduceLT, Nat.reduceLeDiff, reduceCtorEq, Int.reduceNeg, Int.reduceEq, String.reduceEq, Int.reduceLT, Int.reduceLE, Int.reduceToNat, Int.reduceAdd, Int.reduceMul, Int.reduceSub]
  (try simp (config := {maxSteps := 2000000}) only [gimp, impB, isT, go_sem, reduceIte, Nat.reduceEqDiff, Nat.reduceAdd, Nat.reduceMul, Nat.reduceSub, Nat.reduceBEq, Nat.reduceLT, Nat.reduceLeDiff, reduceCtorEq, Int.reduceNeg, Int.reduceEq, String.reduceEq, Int.reduceLT, Int.reduceLE, Int.reduceToNat, Int.reduceAdd, Int.reduceMul, Int.reduceSub])
  exact hs
def tb_specFoldN : List Blk → List AV → Option (List Blk × AV × Prop)
  | [.cells 1 false d [.str w]], [.str s, .ptr 0 0 0 1] => some ([.cells 1 false (.str []) [.str w]], .bool (foldS s w), (d = .str []) ∧ (s.length ≤ maxLen))
  | _, _ => none
theorem tb_specFoldN_ok : ∀ E args E' res p, tb_specFoldN E args = some (E', res, p) → p → SpecE Try.prog 178 E args E' res := by
  intro E args E' res p h hp
  unfold tb_specFoldN at h
  split at h
  · simp only [Option.some.injEq, Prod.mk.injEq] at h
    obtain ⟨rfl, rfl, rfl⟩ := h
    obtain ⟨rfl, hp⟩ := hp
    exact (specFoldN _ _ hp)
  · cases h

def T_specFoldIdx : Tbl := fun g E args => nilT g E args
theorem T_specFoldIdx_ok : TblOK Try.prog T_specFoldIdx := nilT_ok
set_option maxRecDepth 100000 in
set_option maxHeartbeats 4000000 in
theorem specFoldIdx (w : List UInt8) : SpecE Try.prog 237 [.cells 1 false (.str []) (hopHeld.map .str), .cells 1 false (.str []) [.str w]] [.ref 0 0 3 3, .clo 178 0 [.ptr 1 0 0 1]] [.cells 1 false (.str []) (hopHeld.map .str), .cells 1 false (.str []) [.str w]] (.int .i64 (idxP (fun s => foldS s w) hopHeld)) := by
  exact Slc.idxO_S (by decide) (boxStr w) (fun _ => rfl) (q := fun x => x.length ≤ maxLen) (fun x hx => specFoldN x w hx) hopHeld (by decide) (by decide) 3 3 rfl rfl
def tb_specFoldIdx : List Blk → List AV → Option (List Blk × AV × Prop)
  | [.cells 1 false d c, .cells 1 false d2 [.str w]], [.ref 0 0 3 3, .clo 178 0 [.ptr 1 0 0 1]] => some ([.cells 1 false d c, .cells 1 false (.str []) [.str w]], .int .i64 (idxP (fun s => foldS s w) hopHeld), d = .str [] ∧ d2 = .str [] ∧ c = hopHeld.map .str)
  | _, _ => none
theorem tb_specFoldIdx_ok : ∀ E args E' res q, tb_specFoldIdx E args = some (E', res, q) → q → SpecE Try.prog 237 E args E' res := by
  intro E args E' res q h hq
  unfold tb_specFoldIdx at h
  split at h
  · simp only [Option.some.injEq, Prod.mk.injEq] at h
    obtain ⟨rfl, rfl, rfl⟩ := h
    obtain ⟨rfl, rfl, rfl⟩ := hq
    exact specFoldIdx _
  · cases h

def T_specFoldHas : Tbl := fun g E args => (addT nilT 237 Go.Proofs.Try.Hop.tb_specFoldIdx) g E args
theorem T_specFoldHas_ok : TblOK Try.prog T_specFoldHas := (addT_ok nilT_ok (by decide +kernel) Go.Proofs.Try.Hop.tb_specFoldIdx_ok)
set_option maxRecDepth 100000 in
set_option maxHeartbeats 4000000 in
theorem specFoldHas (w : List UInt8) : SpecE Try.prog 145 [.cells 1 false (.str []) (hopHeld.map .str), .cells 1 false (.str []) [.str w]] [.ref 0 0 3 3, .clo 178 0 [.ptr 1 0 0 1]] [.cells 1 false (.str []) (hopHeld.map .str), .cells 1 false (.str []) [.str w]] (.bool (hopStays w)) := by
  refine specFE (C := T_specFoldHas) (wr := false) (D := fun _ => []) (U := fun _ => none) (E := [.cells 1 false (.str []) (hopHeld.map .str), .cells 1 false (.str []) [.str w]]) (E' := [.cells 1 false (.str []) (hopHeld.map .str), .cells 1 false (.str []) [.str w]]) (res := [.bool (hopStays w)]) [] Try.Ty.mixed T_specFoldHas_ok Try.func145 (nE := 2) (nA := 2) (by decide +kernel) rfl rfl ?_
  simp only [Try.f145, bodyOf, rlOf]
  rw [W_V]
  simp (config := {maxSteps := 2000000}) only [T_specFoldHas, Go.Proofs.Try.Hop.tb_specFoldIdx, go_sem, reduceIte, Nat.reduceEqDiff, Nat.reduceAdd, Nat.reduceMul, Nat.reduceSub, Nat.reduceBEq, Nat.reduceLT, Nat.reduceLeDiff, reduceCtorEq, Int.reduceNeg, Int.reduceEq, String.reduceEq, Int.reduceLT, Int.reduceLE, Int.reduceToNat, Int.reduceAdd, Int.reduceMul, Int.reduceSub]
  (try simp (config := {maxSteps := 2000000}) only [gimp, impB, isT, go_sem, reduceIte, Nat.reduceEqDiff, Nat.reduceAdd, Nat.reduceMul, Nat.reduceSub, Nat.reduceBEq, Nat.reduceLT, Nat.reduceLeDiff, reduceCtorEq, Int.reduceNeg, Int.reduceEq, String.reduceEq, Int.reduceLT, Int.reduceLE, Int.reduceToNat, Int.reduceAdd, Int.reduceMul, Int.reduceSub])
  rw [Bool.eq_iff_iff, decide_eq_true_eq, idxP_ge]; rfl
def tb_specFoldHas : List Blk → List AV → Option (List Blk × AV × Prop)
  | [.cells 1 false d c, .cells 1 false d2 [.str w]], [.ref 0 0 3 3, .clo 178 0 [.ptr 1 0 0 1]] => some ([.cells 1 false d c, .cells 1 false (.str []) [.str w]], .bool (hopStays w), d = .str [] ∧ d2 = .str [] ∧ c = hopHeld.map .str)
  | _, _ => none
theorem tb_specFoldHas_ok : ∀ E args E' res q, tb_specFoldHas E args = some (E', res, q) → q → SpecE Try.prog 145 E args E' res := by
  intro E args E' res q h hq
  unfold tb_specFoldHas at h
  split at h
  · simp only [Option.some.injEq, Prod.mk.injEq] at h
    obtain ⟨rfl, rfl, rfl⟩ := h
    obtain ⟨rfl, rfl, rfl⟩ := hq
    exact specFoldHas _
  · cases h

def T_specStays : Tbl := fun g E args => (addT nilT 145 Go.Proofs.Try.Hop.tb_specFoldHas) g E args
theorem T_specStays_ok : TblOK Try.prog T_specStays := (addT_ok nilT_ok (by decide +kernel) Go.Proofs.Try.Hop.tb_specFoldHas_ok)
set_option maxRecDepth 100000 in
set_option maxHeartbeats 4000000 in
theorem specStays (w : List UInt8) : SpecE Try.prog 177 [.cells 1 false (.str []) (hopHeld.map .str)] [.str w, .ptr 0 0 0 3] [.cells 1 false (.str []) (hopHeld.map .str)] (.bool (hopStays w)) := by
  refine specFE (C := T_specStays) (wr := false) (D := fun _ => []) (U := fun _ => none) (E := [.cells 1 false (.str []) (hopHeld.map .str)]) (E' := [.cells 1 false (.str []) (hopHeld.map .str)]) (res := [.bool (hopStays w)]) [] Try.Ty.mixed T_specStays_ok Try.func177 (nE := 1) (nA := 2) (by decide +kernel) rfl rfl ?_
  simp only [Try.f177, bodyOf, rlOf]
  rw [W_V]
  simp (config := {maxSteps := 2000000}) only [T_specStays, Go.Proofs.Try.Hop.tb_specFoldHas, go_sem, reduceIte, Nat.reduceEqDiff, Nat.reduceAdd, Nat.reduceMul, Nat.reduceSub, Nat.reduceBEq, Nat.reduceLT, Nat.reduceLeDiff, reduceCtorEq, Int.reduceNeg, Int.reduceEq, String.reduceEq, Int.reduceLT, Int.reduceLE, Int.reduceToNat, Int.reduceAdd, Int.reduceMul, Int.reduceSub, hopHeld]
  (try simp (config := {maxSteps := 2000000}) only [gimp, impB, isT, go_sem, reduceIte, Nat.reduceEqDiff, Nat.reduceAdd, Nat.reduceMul, Nat.reduceSub, Nat.reduceBEq, Nat.reduceLT, Nat.reduceLeDiff, reduceCtorEq, Int.reduceNeg, Int.reduceEq, String.reduceEq, Int.reduceLT, Int.reduceLE, Int.reduceToNat, Int.reduceAdd, Int.reduceMul, Int.reduceSub])

def T_specDelW : Tbl := fun g E args => nilT g E args
theorem T_specDelW_ok : TblOK Try.prog T_specDelW := nilT_ok
set_option maxRecDepth 100000 in
set_option maxHeartbeats 4000000 in
theorem specDelW (W : List (List UInt8)) (m1 m2 : Nat) (hl : W.length ≤ 1000000) (h1 : m1 = W.length) (h2 : m2 = W.length) : SpecE Try.prog 180 [.cells 1 false (.str []) (W.map .str), .cells 1 false (.str []) (hopHeld.map .str)] [.ref 0 0 m1 m2, .clo 177 0 [.ptr 1 0 0 3]] [.cells 1 false (.str []) ((delP [] hopStays W).map .str), .cells 1 false (.str []) (hopHeld.map .str)] (.ref 0 0 (W.filter fun w => !hopStays w).length m2) := by
  subst h1; subst h2; exact SlcH.del_S (by decide) (boxStrs _) (fun _ => rfl) (q := fun _ => True) (fun x _ => specStays x) W (fun _ _ => trivial) hl
def tb_specDelW : List Blk → List AV → Option (List Blk × AV × Prop)
  | [.cells 1 false d0 c, .cells 1 false d1 x], [.ref 0 0 m1 m2, .clo 177 0 [.ptr 1 0 0 3]] =>
    some ([.cells 1 false d0 ((delP [] hopStays (c.map toStr)).map .str), .cells 1 false (.str []) (hopHeld.map .str)], .ref 0 0 ((c.map toStr).filter fun w => !hopStays w).length m2,
      d0 = .str [] ∧ d1 = .str [] ∧ x = hopHeld.map .str ∧ m1 = c.length ∧ m2 = c.length ∧ (c.map toStr).map .str = c ∧ c.length ≤ 1000000)
  | _, _ => none
theorem tb_specDelW_ok : ∀ E args E' res q, tb_specDelW E args = some (E', res, q) → q → SpecE Try.prog 180 E args E' res := by
  intro E args E' res q h hq
  unfold tb_specDelW at h
  split at h
  · rename_i d0 c d1 x m1 m2
    simp only [Option.some.injEq, Prod.mk.injEq] at h
    obtain ⟨rfl, rfl, rfl⟩ := h
    obtain ⟨rfl, rfl, rfl, h1, h2, h3, h4⟩ := hq
    have := specDelW (c.map toStr) m1 m2 (by rw [List.length_map]; exact h4) (by rw [List.length_map]; exact h1) (by rw [List.length_map]; exact h2)
    rw [h3] at this
    exact this
  · cases h

def T_specNamesA : Tbl := fun g E args => (addT (addT (addT (addT nilT 128 Go.Proofs.Try.Con.tb_specWordsO) 176 Go.Proofs.Try.Hop.tb_specHeld) 179 Go.Proofs.Try.Hop.tb_specAlways) 180 Go.Proofs.Try.Hop.tb_specDelW) g E args
theorem T_specNamesA_ok : TblOK Try.prog T_specNamesA := (addT_ok (addT_ok (addT_ok (addT_ok nilT_ok (by decide +kernel) Go.Proofs.Try.Con.tb_specWordsO_ok) (by decide +kernel) Go.Proofs.Try.Hop.tb_specHeld_ok) (by decide +kernel) Go.Proofs.Try.Hop.tb_specAlways_ok) (by decide +kernel) Go.Proofs.Try.Hop.tb_specDelW_ok)
set_option maxRecDepth 100000 in
set_option maxHeartbeats 4000000 in
theorem specNamesA (l : List Fld) (hl : l.length ≤ 1000) (hq : ∀ f ∈ l, f.2.length ≤ 900) (hcon : conOk l = true) : SpecE Try.prog 72 [] [enc_flds l] [] (enc_strs (hopN l)) := by
  refine specF0 (C := T_specNamesA) (wr := false) (D := fun i => if i = 5 then [3, 4] else []) (U := fun _ => none) (res := [enc_strs (hopN l)]) Try.Ty.mixed T_specNamesA_ok Try.func72 (nA := 1) (by decide +kernel) rfl (fun _ => rfl) ?_
  simp only [Try.f72, bodyOf, rlOf]
  rw [W_V]
  simp (config := {maxSteps := 2000000}) only [T_specNamesA, Go.Proofs.Try.Con.tb_specWordsO, Go.Proofs.Try.Hop.tb_specHeld, Go.Proofs.Try.Hop.tb_specAlways, Go.Proofs.Try.Hop.tb_specDelW, go_sem, reduceIte, Nat.reduceEqDiff, Nat.reduceAdd, Nat.reduceMul, Nat.reduceSub, Nat.reduceBEq, Nat.reduceLT, Nat.reduceLeDiff, reduceCtorEq, Int.reduceNeg, Int.reduceEq, String.reduceEq, Int.reduceLT, Int.reduceLE, Int.reduceToNat, Int.reduceAdd, Int.reduceMul, Int.reduceSub, hopHeld, hopAlways]
  (try simp (config := {maxSteps := 2000000}) only [gimp, impB, isT, go_sem, reduceIte, Nat.reduceEqDiff, Nat.reduceAdd, Nat.reduceMul, Nat.reduceSub, Nat.reduceBEq, Nat.reduceLT, Nat.reduceLeDiff, reduceCtorEq, Int.reduceNeg, Int.reduceEq, String.reduceEq, Int.reduceLT, Int.reduceLE, Int.reduceToNat, Int.reduceAdd, Int.reduceMul, Int.reduceSub])
  have hcnt : (conW l).length ≤ 902001 := by
    have h1 := wordsS_count (combS l nmConnection)
    have h2 := comb_len3 nmConnection hl hq
    unfold conW; omega
  have hf := List.length_filter_le (fun w => !hopStays w) (conW l)
  have hdt : List.take (List.filter (fun w => !hopStays w) (conW l)).length (delP [] hopStays (conW l)) = List.filter (fun w => !hopStays w) (conW l) := delP_take _ _ _
  rw [hdt, delP_len]
  refine ⟨⟨hl, fun f h => by have := hq f h; omega, hcon⟩, by omega, ⟨rfl, by omega, by omega⟩, ?_, by omega⟩
  rw [List.take_of_length_le (by simp only [List.length_cons, List.length_map]; omega)]
  simp [hopN, hopAlways]

def T_specIdxN : Tbl := fun g E args => nilT g E args
theorem T_specIdxN_ok : TblOK Try.prog T_specIdxN := nilT_ok
set_option maxRecDepth 100000 in
set_option maxHeartbeats 4000000 in
theorem specIdxN : SpecE Try.prog 237 [.cells 1 false (.str []) (hopHeld.map .str)] [.nils, .clo 177 0 [.ptr 0 0 0 3]] [.cells 1 false (.str []) (hopHeld.map .str)] (.int .i64 (-1)) := by
  refine specFE (C := T_specIdxN) (wr := false) (D := fun _ => []) (U := fun _ => none) (E := [.cells 1 false (.str []) (hopHeld.map .str)]) (E' := [.cells 1 false (.str []) (hopHeld.map .str)]) (res := [.int .i64 (-1)]) [] Try.Ty.mixed T_specIdxN_ok Try.func237 (nE := 1) (nA := 2) (by decide +kernel) rfl rfl ?_
  simp only [Try.f237, bodyOf, rlOf]
  rw [W_V]
  simp (config := {maxSteps := 2000000}) only [T_specIdxN, go_sem, reduceIte, Nat.reduceEqDiff, Nat.reduceAdd, Nat.reduceMul, Nat.reduceSub, Nat.reduceBEq, Nat.reduceLT, Nat.reduceLeDiff, reduceCtorEq, Int.reduceNeg, Int.reduceEq, String.reduceEq, Int.reduceLT, Int.reduceLE, Int.reduceToNat, Int.reduceAdd, Int.reduceMul, Int.reduceSub]
  (try simp (config := {maxSteps := 2000000}) only [gimp, impB, isT, go_sem, reduceIte, Nat.reduceEqDiff, Nat.reduceAdd, Nat.reduceMul, Nat.reduceSub, Nat.reduceBEq, Nat.reduceLT, Nat.reduceLeDiff, reduceCtorEq, Int.reduceNeg, Int.reduceEq, String.reduceEq, Int.reduceLT, Int.reduceLE, Int.reduceToNat, Int.reduceAdd, Int.reduceMul, Int.reduceSub])
  refine VL_inv (X := Unit) (fun _ => ⟨[(0, .nils), (1, .clo 177 0 [.ptr 0 0 0 3]), (7, .int .i64 0), (8, .int .i64 0)], [(0, .cells 1 false (.str []) (hopHeld.map .str))]⟩) (fun _ => True) (fun _ => 0) () ?_ trivial ?_
  · simp only [go_sem, go_sem, reduceIte, Nat.reduceEqDiff, Nat.reduceAdd, Nat.reduceMul, Nat.reduceSub, Nat.reduceBEq, Nat.reduceLT, Nat.reduceLeDiff, reduceCtorEq, Int.reduceNeg, Int.reduceEq, String.reduceEq, Int.reduceLT, Int.reduceLE, Int.reduceToNat, Int.reduceAdd, Int.reduceMul, Int.reduceSub]
    try rfl
  rintro _ _
  simp (config := {maxSteps := 2000000}) only [T_specIdxN, go_sem, reduceIte, Nat.reduceEqDiff, Nat.reduceAdd, Nat.reduceMul, Nat.reduceSub, Nat.reduceBEq, Nat.reduceLT, Nat.reduceLeDiff, reduceCtorEq, Int.reduceNeg, Int.reduceEq, String.reduceEq, Int.reduceLT, Int.reduceLE, Int.reduceToNat, Int.reduceAdd, Int.reduceMul, Int.reduceSub]
  (try simp (config := {maxSteps := 2000000}) only [gimp, impB, isT, go_sem, reduceIte, Nat.reduceEqDiff, Nat.reduceAdd, Nat.reduceMul, Nat.reduceSub, Nat.reduceBEq, Nat.reduceLT, Nat.reduceLeDiff, reduceCtorEq, Int.reduceNeg, Int.reduceEq, String.reduceEq, Int.reduceLT, Int.reduceLE, Int.reduceToNat, Int.reduceAdd, Int.reduceMul, Int.reduceSub])
def tb_specIdxN : List Blk → List AV → Option (List Blk × AV × Prop)
  | [.cells 1 false d x], [.nils, .clo 177 0 [.ptr 0 0 0 3]] => some ([.cells 1 false (.str []) (hopHeld.map .str)], .int .i64 (-1), d = .str [] ∧ x = hopHeld.map .str)
  | _, _ => none
theorem tb_specIdxN_ok : ∀ E args E' res q, tb_specIdxN E args = some (E', res, q) → q → SpecE Try.prog 237 E args E' res := by
  intro E args E' res q h hq
  unfold tb_specIdxN at h
  split at h
  · simp only [Option.some.injEq, Prod.mk.injEq] at h
    obtain ⟨rfl, rfl, rfl⟩ := h
    obtain ⟨rfl, rfl⟩ := hq
    exact specIdxN
  · cases h

def T_specDelN : Tbl := fun g E args => (addT nilT 237 Go.Proofs.Try.Hop.tb_specIdxN) g E args
theorem T_specDelN_ok : TblOK Try.prog T_specDelN := (addT_ok nilT_ok (by decide +kernel) Go.Proofs.Try.Hop.tb_specIdxN_ok)
set_option maxRecDepth 100000 in
set_option maxHeartbeats 4000000 in
theorem specDelN : SpecE Try.prog 180 [.cells 1 false (.str []) (hopHeld.map .str)] [.nils, .clo 177 0 [.ptr 0 0 0 3]] [.cells 1 false (.str []) (hopHeld.map .str)] (.nils) := by
  refine specFE (C := T_specDelN) (wr := false) (D := fun _ => []) (U := fun _ => none) (E := [.cells 1 false (.str []) (hopHeld.map .str)]) (E' := [.cells 1 false (.str []) (hopHeld.map .str)]) (res := [.nils]) [] Try.Ty.mixed T_specDelN_ok Try.func180 (nE := 1) (nA := 2) (by decide +kernel) rfl rfl ?_
  simp only [Try.f180, bodyOf, rlOf]
  rw [W_V]
  simp (config := {maxSteps := 2000000}) only [T_specDelN, Go.Proofs.Try.Hop.tb_specIdxN, go_sem, reduceIte, Nat.reduceEqDiff, Nat.reduceAdd, Nat.reduceMul, Nat.reduceSub, Nat.reduceBEq, Nat.reduceLT, Nat.reduceLeDiff, reduceCtorEq, Int.reduceNeg, Int.reduceEq, String.reduceEq, Int.reduceLT, Int.reduceLE, Int.reduceToNat, Int.reduceAdd, Int.reduceMul, Int.reduceSub]
  (try simp (config := {maxSteps := 2000000}) only [gimp, impB, isT, go_sem, reduceIte, Nat.reduceEqDiff, Nat.reduceAdd, Nat.reduceMul, Nat.reduceSub, Nat.reduceBEq, Nat.reduceLT, Nat.reduceLeDiff, reduceCtorEq, Int.reduceNeg, Int.reduceEq, String.reduceEq, Int.reduceLT, Int.reduceLE, Int.reduceToNat, Int.reduceAdd, Int.reduceMul, Int.reduceSub])
def tb_specDelN : List Blk → List AV → Option (List Blk × AV × Prop)
  | [.cells 1 false d x], [.nils, .clo 177 0 [.ptr 0 0 0 3]] => some ([.cells 1 false (.str []) (hopHeld.map .str)], .nils, d = .str [] ∧ x = hopHeld.map .str)
  | _, _ => none
theorem tb_specDelN_ok : ∀ E args E' res q, tb_specDelN E args = some (E', res, q) → q → SpecE Try.prog 180 E args E' res := by
  intro E args E' res q h hq
  unfold tb_specDelN at h
  split at h
  · simp only [Option.some.injEq, Prod.mk.injEq] at h
    obtain ⟨rfl, rfl, rfl⟩ := h
    obtain ⟨rfl, rfl⟩ := hq
    exact specDelN
  · cases h

def T_specNamesB : Tbl := fun g E args => (addT (addT (addT (addT nilT 128 Go.Proofs.Try.Con.tb_specWordsN) 176 Go.Proofs.Try.Hop.tb_specHeld) 179 Go.Proofs.Try.Hop.tb_specAlways) 180 Go.Proofs.Try.Hop.tb_specDelN) g E args
theorem T_specNamesB_ok : TblOK Try.prog T_specNamesB := (addT_ok (addT_ok (addT_ok (addT_ok nilT_ok (by decide +kernel) Go.Proofs.Try.Con.tb_specWordsN_ok) (by decide +kernel) Go.Proofs.Try.Hop.tb_specHeld_ok) (by decide +kernel) Go.Proofs.Try.Hop.tb_specAlways_ok) (by decide +kernel) Go.Proofs.Try.Hop.tb_specDelN_ok)
set_option maxRecDepth 100000 in
set_option maxHeartbeats 4000000 in
theorem specNamesB (l : List Fld) (hl : l.length ≤ 1000) (hq : ∀ f ∈ l, f.2.length ≤ 900) (hcon : conOk l = false) : SpecE Try.prog 72 [] [enc_flds l] [] (enc_strs (hopN l)) := by
  refine specF0 (C := T_specNamesB) (wr := false) (D := fun i => if i = 5 then [3, 4] else []) (U := fun _ => none) (res := [enc_strs (hopN l)]) Try.Ty.mixed T_specNamesB_ok Try.func72 (nA := 1) (by decide +kernel) rfl (fun _ => rfl) ?_
  simp only [Try.f72, bodyOf, rlOf]
  rw [W_V]
  simp (config := {maxSteps := 2000000}) only [T_specNamesB, Go.Proofs.Try.Con.tb_specWordsN, Go.Proofs.Try.Hop.tb_specHeld, Go.Proofs.Try.Hop.tb_specAlways, Go.Proofs.Try.Hop.tb_specDelN, go_sem, reduceIte, Nat.reduceEqDiff, Nat.reduceAdd, Nat.reduceMul, Nat.reduceSub, Nat.reduceBEq, Nat.reduceLT, Nat.reduceLeDiff, reduceCtorEq, Int.reduceNeg, Int.reduceEq, String.reduceEq, Int.reduceLT, Int.reduceLE, Int.reduceToNat, Int.reduceAdd, Int.reduceMul, Int.reduceSub, hopHeld, hopAlways]
  (try simp (config := {maxSteps := 2000000}) only [gimp, impB, isT, go_sem, reduceIte, Nat.reduceEqDiff, Nat.reduceAdd, Nat.reduceMul, Nat.reduceSub, Nat.reduceBEq, Nat.reduceLT, Nat.reduceLeDiff, reduceCtorEq, Int.reduceNeg, Int.reduceEq, String.reduceEq, Int.reduceLT, Int.reduceLE, Int.reduceToNat, Int.reduceAdd, Int.reduceMul, Int.reduceSub])
  have hW : conW l = [] := by
    have : wordsOk (combS l nmConnection) = false := hcon
    simp [conW, wordsS, this]
  refine ⟨⟨hl, fun f h => by have := hq f h; omega, hcon⟩, ?_⟩
  rw [hopN, hW]; rfl
end Go.Proofs.Try.Hop
