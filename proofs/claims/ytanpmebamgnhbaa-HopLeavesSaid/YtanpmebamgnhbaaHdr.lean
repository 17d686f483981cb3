/- header: the walks of the program. No condition beyond those that a machine's numbers bring. -/
import Derived.Test.YtanpmebamgnhbaaHdrM
import Derived.Test.YtanpmebamgnhbaaSlc
set_option linter.unusedVariables false
set_option linter.unusedSimpArgs false
namespace Go.Proofs.Try.Hdr
open Go Go.Abs Go.Proofs Go.Mdl

def T_specNamed : Tbl := fun g E args => nilT g E args
theorem T_specNamed_ok : TblOK Try.prog T_specNamed := nilT_ok
set_option maxRecDepth 100000 in
set_option maxHeartbeats 4000000 in
theorem specNamed (names : List (List UInt8)) : SpecE Try.prog 190 [] [enc_strs names] [.cells 1 false .nils [enc_strs names]] (.clo 270 0 [.ptr 0 0 0 1]) := by
  refine specFE (C := T_specNamed) (wr := false) (D := fun _ => []) (U := fun _ => none) (E := []) (E' := [.cells 1 false .nils [enc_strs names]]) (res := [.clo 270 0 [.ptr 0 0 0 1]]) [32] Try.Ty.mixed T_specNamed_ok Try.func190 (nE := 0) (nA := 1) (by decide +kernel) rfl rfl ?_
  simp only [Try.f190, bodyOf, rlOf]
  rw [W_V]
  simp (config := {maxSteps := 2000000}) only [T_specNamed, go_sem, reduceIte, Nat.reduceEqDiff, Nat.reduceAdd, Nat.reduceMul, Nat.reduceSub, Nat.reduceBEq, Nat.reduceLT, Nat.reduceLeDiff, reduceCtorEq, Int.reduceNeg, Int.reduceEq, String.reduceEq, Int.reduceLT, Int.reduceLE, Int.reduceToNat, Int.reduceAdd, Int.reduceMul, Int.reduceSub]
  (try simp (config := {maxSteps := 2000000}) only [gimp, impB, isT, go_sem, reduceIte, Nat.reduceEqDiff, Nat.reduceAdd, Nat.reduceMul, Nat.reduceSub, Nat.reduceBEq, Nat.reduceLT, Nat.reduceLeDiff, reduceCtorEq, Int.reduceNeg, Int.reduceEq, String.reduceEq, Int.reduceLT, Int.reduceLE, Int.reduceToNat, Int.reduceAdd, Int.reduceMul, Int.reduceSub])
def tb_specNamed : List Blk → List AV → Option (List Blk × AV × Prop)
  | [], [a0] => some ([.cells 1 false .nils [enc_strs (dec_strs a0)]], .clo 270 0 [.ptr 0 0 0 1], argOK a0 (enc_strs (dec_strs a0)))
  | _, _ => none
theorem tb_specNamed_ok : ∀ E args E' res p, tb_specNamed E args = some (E', res, p) → p → SpecE Try.prog 190 E args E' res := by
  intro E args E' res p h hp
  unfold tb_specNamed at h
  split at h
  · simp only [Option.some.injEq, Prod.mk.injEq] at h
    obtain ⟨rfl, rfl, rfl⟩ := h
    exact SpecE.args (specNamed _) (.cons hp .nil)
  · cases h

def T_specNamedN : Tbl := fun g E args => (addT nilT 85 Go.Proofs.Try.Oct.tb_specFold) g E args
theorem T_specNamedN_ok : TblOK Try.prog T_specNamedN := (addT_ok nilT_ok (by decide +kernel) Go.Proofs.Try.Oct.tb_specFold_ok)
set_option maxRecDepth 100000 in
set_option maxHeartbeats 4000000 in
theorem specNamedN (n a b : List UInt8) (hn : n.length ≤ maxLen) : SpecE Try.prog 271 [.cells 2 false (.agg [.str [], .str []]) [.agg [.str a, .str b]]] [.str n, .ptr 0 0 0 1] [.cells 2 false (.agg [.str [], .str []]) [.agg [.str a, .str b]]] (.bool (foldS n a)) := by
  refine specFE (C := T_specNamedN) (wr := false) (D := fun _ => []) (U := fun _ => none) (E := [.cells 2 false (.agg [.str [], .str []]) [.agg [.str a, .str b]]]) (E' := [.cells 2 false (.agg [.str [], .str []]) [.agg [.str a, .str b]]]) (res := [.bool (foldS n a)]) [] Try.Ty.mixed T_specNamedN_ok Try.func271 (nE := 1) (nA := 2) (by decide +kernel) rfl rfl ?_
  simp only [Try.f271, bodyOf, rlOf]
  rw [W_V]
  simp (config := {maxSteps := 2000000}) only [T_specNamedN, Go.Proofs.Try.Oct.tb_specFold, go_sem, reduceIte, Nat.reduceEqDiff, Nat.reduceAdd, Nat.reduceMul, Nat.reduceSub, Nat.reduceBEq, Nat.reduceLT, Nat.reduceLeDiff, reduceCtorEq, Int.reduceNeg, Int.reduceEq, String.reduceEq, Int.reduceLT, Int.reduceLE, Int.reduceToNat, Int.reduceAdd, Int.reduceMul, Int.reduceSub]
  (try simp (config := {maxSteps := 2000000}) only [gimp, impB, isT, go_sem, reduceIte, Nat.reduceEqDiff, Nat.reduceAdd, Nat.reduceMul, Nat.reduceSub, Nat.reduceBEq, Nat.reduceLT, Nat.reduceLeDiff, reduceCtorEq, Int.reduceNeg, Int.reduceEq, String.reduceEq, Int.reduceLT, Int.reduceLE, Int.reduceToNat, Int.reduceAdd, Int.reduceMul, Int.reduceSub])
  exact hn
def tb_specNamedN : List Blk → List AV → Option (List Blk × AV × Prop)
  | [.cells 2 false d [.agg [.str a, .str b]]], [.str n, .ptr 0 0 0 1] => some ([.cells 2 false (.agg [.str [], .str []]) [.agg [.str a, .str b]]], .bool (foldS n a), (d = .agg [.str [], .str []]) ∧ (n.length ≤ maxLen))
  | _, _ => none
theorem tb_specNamedN_ok : ∀ E args E' res p, tb_specNamedN E args = some (E', res, p) → p → SpecE Try.prog 271 E args E' res := by
  intro E args E' res p h hp
  unfold tb_specNamedN at h
  split at h
  · simp only [Option.some.injEq, Prod.mk.injEq] at h
    obtain ⟨rfl, rfl, rfl⟩ := h
    obtain ⟨rfl, hp⟩ := hp
    exact (specNamedN _ _ _ hp)
  · cases h

def T_specNamedHas : Tbl := fun g E args => nilT g E args
theorem T_specNamedHas_ok : TblOK Try.prog T_specNamedHas := nilT_ok
set_option maxRecDepth 100000 in
set_option maxHeartbeats 4000000 in
theorem specNamedHas (names : List (List UInt8)) (a b : List UInt8) (hl : names.length ≤ maxLen) (hq : ∀ x ∈ names, x.length ≤ maxLen) : SpecE Try.prog 145 [.cells 2 false (.agg [.str [], .str []]) [.agg [.str a, .str b]]] [enc_strs names, .clo 271 0 [.ptr 0 0 0 1]] [.cells 2 false (.agg [.str [], .str []]) [.agg [.str a, .str b]]] (.bool (isN names (a, b))) := by
  exact Slc.has_S (by decide) (boxFld (a, b)) (fun _ => rfl) (q := fun x => x.length ≤ maxLen) (fun x hx => specNamedN x a b hx) names hq hl
def tb_specNamedHas : List Blk → List AV → Option (List Blk × AV × Prop)
  | [.cells 2 false d [.agg [.str a, .str b]]], [a0, .clo 271 0 [.ptr 0 0 0 1]] => some ([.cells 2 false (.agg [.str [], .str []]) [.agg [.str a, .str b]]], .bool (isN (dec_strs a0) (a, b)), (d = .agg [.str [], .str []]) ∧ ((dec_strs a0).length ≤ maxLen) ∧ (∀ x ∈ (dec_strs a0), x.length ≤ maxLen) ∧ argOK a0 (enc_strs (dec_strs a0)))
  | _, _ => none
theorem tb_specNamedHas_ok : ∀ E args E' res p, tb_specNamedHas E args = some (E', res, p) → p → SpecE Try.prog 145 E args E' res := by
  intro E args E' res p h hp
  unfold tb_specNamedHas at h
  split at h
  · simp only [Option.some.injEq, Prod.mk.injEq] at h
    obtain ⟨rfl, rfl, rfl⟩ := h
    obtain ⟨rfl, hp⟩ := hp
    exact SpecE.args (specNamedHas _ _ _ hp.1 hp.2.1) (.cons hp.2.2 (.cons (argOK.refl _) .nil))
  · cases h

def T_specNamedF : Tbl := fun g E args => (addT nilT 145 Go.Proofs.Try.Hdr.tb_specNamedHas) g E args
theorem T_specNamedF_ok : TblOK Try.prog T_specNamedF := (addT_ok nilT_ok (by decide +kernel) Go.Proofs.Try.Hdr.tb_specNamedHas_ok)
set_option maxRecDepth 100000 in
set_option maxHeartbeats 4000000 in
theorem specNamedF (names : List (List UInt8)) (a b : List UInt8) (hl : names.length ≤ maxLen) (hq : ∀ x ∈ names, x.length ≤ maxLen) : SpecE Try.prog 270 [.cells 1 false .nils [enc_strs names]] [.agg [.str a, .str b], .ptr 0 0 0 1] [.cells 1 false .nils [enc_strs names]] (.bool (isN names (a, b))) := by
  refine specFE (C := T_specNamedF) (wr := false) (D := fun _ => []) (U := fun _ => none) (E := [.cells 1 false .nils [enc_strs names]]) (E' := [.cells 1 false .nils [enc_strs names]]) (res := [.bool (isN names (a, b))]) [] Try.Ty.mixed T_specNamedF_ok Try.func270 (nE := 1) (nA := 2) (by decide +kernel) rfl rfl ?_
  simp only [Try.f270, bodyOf, rlOf]
  rw [W_V]
  simp (config := {maxSteps := 2000000}) only [T_specNamedF, Go.Proofs.Try.Hdr.tb_specNamedHas, go_sem, reduceIte, Nat.reduceEqDiff, Nat.reduceAdd, Nat.reduceMul, Nat.reduceSub, Nat.reduceBEq, Nat.reduceLT, Nat.reduceLeDiff, reduceCtorEq, Int.reduceNeg, Int.reduceEq, String.reduceEq, Int.reduceLT, Int.reduceLE, Int.reduceToNat, Int.reduceAdd, Int.reduceMul, Int.reduceSub]
  (try simp (config := {maxSteps := 2000000}) only [gimp, impB, isT, go_sem, reduceIte, Nat.reduceEqDiff, Nat.reduceAdd, Nat.reduceMul, Nat.reduceSub, Nat.reduceBEq, Nat.reduceLT, Nat.reduceLeDiff, reduceCtorEq, Int.reduceNeg, Int.reduceEq, String.reduceEq, Int.reduceLT, Int.reduceLE, Int.reduceToNat, Int.reduceAdd, Int.reduceMul, Int.reduceSub])
  exact ⟨hl, hq⟩
def tb_specNamedF : List Blk → List AV → Option (List Blk × AV × Prop)
  | [.cells 1 false d [b0_0]], [.agg [.str a, .str b], .ptr 0 0 0 1] => some ([.cells 1 false .nils [enc_strs (dec_strs b0_0)]], .bool (isN (dec_strs b0_0) (a, b)), (d = .nils) ∧ ((dec_strs b0_0).length ≤ maxLen) ∧ (∀ x ∈ (dec_strs b0_0), x.length ≤ maxLen) ∧ b0_0 = enc_strs (dec_strs b0_0))
  | _, _ => none
theorem tb_specNamedF_ok : ∀ E args E' res p, tb_specNamedF E args = some (E', res, p) → p → SpecE Try.prog 270 E args E' res := by
  intro E args E' res p h hp
  unfold tb_specNamedF at h
  split at h
  · rename_i d b0_0 a b
    simp only [Option.some.injEq, Prod.mk.injEq] at h
    obtain ⟨rfl, rfl, rfl⟩ := h
    obtain ⟨rfl, hh0, hh1, hb0⟩ := hp
    generalize dec_strs b0_0 = b0_0_x at *
    subst hb0
    exact (specNamedF _ _ _ hh0 hh1)
  · cases h

def T_specIdx : Tbl := fun g E args => nilT g E args
theorem T_specIdx_ok : TblOK Try.prog T_specIdx := nilT_ok
set_option maxRecDepth 100000 in
set_option maxHeartbeats 4000000 in
theorem specIdx (names : List (List UInt8)) (l : List Fld) (hl : names.length ≤ maxLen) (hq : ∀ x ∈ names, x.length ≤ maxLen) (hll : l.length ≤ maxLen) : SpecE Try.prog 189 [.cells 1 false .nils [enc_strs names]] [enc_flds l, .clo 270 0 [.ptr 0 0 0 1]] [.cells 1 false .nils [enc_strs names]] (.int .i64 (idxP (isN names) l)) := by
  exact Slc.idx_F (by decide) (boxList 1 _) (fun _ => rfl) (q := fun _ => True) (fun x _ => specNamedF names x.1 x.2 hl hq) l (fun _ _ => trivial) hll
def tb_specIdx : List Blk → List AV → Option (List Blk × AV × Prop)
  | [.cells 1 false d [b0_0]], [a0, .clo 270 0 [.ptr 0 0 0 1]] => some ([.cells 1 false .nils [enc_strs (dec_strs b0_0)]], .int .i64 (idxP (isN (dec_strs b0_0)) (dec_flds a0)), (d = .nils) ∧ ((dec_strs b0_0).length ≤ maxLen) ∧ (∀ x ∈ (dec_strs b0_0), x.length ≤ maxLen) ∧ ((dec_flds a0).length ≤ maxLen) ∧ b0_0 = enc_strs (dec_strs b0_0) ∧ argOK a0 (enc_flds (dec_flds a0)))
  | _, _ => none
theorem tb_specIdx_ok : ∀ E args E' res p, tb_specIdx E args = some (E', res, p) → p → SpecE Try.prog 189 E args E' res := by
  intro E args E' res p h hp
  unfold tb_specIdx at h
  split at h
  · rename_i d b0_0 a0
    simp only [Option.some.injEq, Prod.mk.injEq] at h
    obtain ⟨rfl, rfl, rfl⟩ := h
    obtain ⟨rfl, hh0, hh1, hh2, hb0, hc0⟩ := hp
    generalize dec_strs b0_0 = b0_0_x at *
    subst hb0
    exact SpecE.args (specIdx _ _ hh0 hh1 hh2) (.cons hc0 (.cons (argOK.refl _) .nil))
  · cases h

def T_specAll : Tbl := fun g E args => (addT (addT nilT 190 Go.Proofs.Try.Hdr.tb_specNamed) 270 Go.Proofs.Try.Hdr.tb_specNamedF) g E args
theorem T_specAll_ok : TblOK Try.prog T_specAll := (addT_ok (addT_ok nilT_ok (by decide +kernel) Go.Proofs.Try.Hdr.tb_specNamed_ok) (by decide +kernel) Go.Proofs.Try.Hdr.tb_specNamedF_ok)
set_option maxRecDepth 100000 in
set_option maxHeartbeats 4000000 in
theorem specAll (l : List Fld) (name : List UInt8) (hl : l.length ≤ 1000) (hn : name.length ≤ maxLen) : SpecE Try.prog 186 [] [enc_flds l, .str name] [] (enc_strs (allS l name)) := by
  refine specF0 (C := T_specAll) (wr := false) (D := fun _ => []) (U := fun _ => none) (res := [enc_strs (allS l name)]) Try.Ty.mixed T_specAll_ok Try.func186 (nA := 2) (by decide +kernel) rfl (fun _ => rfl) ?_
  simp only [Try.f186, bodyOf, rlOf]
  rw [W_V]
  simp (config := {maxSteps := 2000000}) only [T_specAll, Go.Proofs.Try.Hdr.tb_specNamed, Go.Proofs.Try.Hdr.tb_specNamedF, go_sem, reduceIte, Nat.reduceEqDiff, Nat.reduceAdd, Nat.reduceMul, Nat.reduceSub, Nat.reduceBEq, Nat.reduceLT, Nat.reduceLeDiff, reduceCtorEq, Int.reduceNeg, Int.reduceEq, String.reduceEq, Int.reduceLT, Int.reduceLE, Int.reduceToNat, Int.reduceAdd, Int.reduceMul, Int.reduceSub]
  (try simp (config := {maxSteps := 2000000}) only [gimp, impB, isT, go_sem, reduceIte, Nat.reduceEqDiff, Nat.reduceAdd, Nat.reduceMul, Nat.reduceSub, Nat.reduceBEq, Nat.reduceLT, Nat.reduceLeDiff, reduceCtorEq, Int.reduceNeg, Int.reduceEq, String.reduceEq, Int.reduceLT, Int.reduceLE, Int.reduceToNat, Int.reduceAdd, Int.reduceMul, Int.reduceSub])
  refine VL_inv (X := Nat) (fun k => ⟨[(5, .clo 270 0 [.ptr 192 0 0 1]), (6, .ref 416 0 (allS (l.take k) name).length (allS (l.take k) name).length), (12, enc_flds l), (13, .int .i64 l.length), (14, .int .i64 k)], [(192, .cells 1 false .nils [enc_strs [name]]), (416, .cells 1 false (.str []) ((allS (l.take k) name).map .str))]⟩) (fun k => k ≤ l.length) (fun k => l.length - k) 0 ?_ ?_ ?_
  · simp only [allS, List.take_zero, List.filter_nil, go_sem, go_sem, reduceIte, Nat.reduceEqDiff, Nat.reduceAdd, Nat.reduceMul, Nat.reduceSub, Nat.reduceBEq, Nat.reduceLT, Nat.reduceLeDiff, reduceCtorEq, Int.reduceNeg, Int.reduceEq, String.reduceEq, Int.reduceLT, Int.reduceLE, Int.reduceToNat, Int.reduceAdd, Int.reduceMul, Int.reduceSub]
    try rfl
  · exact Nat.zero_le _
  rintro k hk
  simp (config := {maxSteps := 2000000}) only [T_specAll, Go.Proofs.Try.Hdr.tb_specNamed, Go.Proofs.Try.Hdr.tb_specNamedF, go_sem, reduceIte, Nat.reduceEqDiff, Nat.reduceAdd, Nat.reduceMul, Nat.reduceSub, Nat.reduceBEq, Nat.reduceLT, Nat.reduceLeDiff, reduceCtorEq, Int.reduceNeg, Int.reduceEq, String.reduceEq, Int.reduceLT, Int.reduceLE, Int.reduceToNat, Int.reduceAdd, Int.reduceMul, Int.reduceSub]
  (try simp (config := {maxSteps := 2000000}) only [gimp, impB, isT, go_sem, reduceIte, Nat.reduceEqDiff, Nat.reduceAdd, Nat.reduceMul, Nat.reduceSub, Nat.reduceBEq, Nat.reduceLT, Nat.reduceLeDiff, reduceCtorEq, Int.reduceNeg, Int.reduceEq, String.reduceEq, Int.reduceLT, Int.reduceLE, Int.reduceToNat, Int.reduceAdd, Int.reduceMul, Int.reduceSub])
  have hs := fun h : k < l.length => allS_take_succ (l := l) name h
  have hle := allS_len (l.take k) name
  have hlt' : (l.take k).length ≤ 1000 := by rw [List.length_take]; omega
  have hm : (1 : Nat) ≤ maxLen := by decide
  refine ⟨fun hlt => ⟨by omega, ⟨hm, hn⟩, fun hy => ⟨by omega, by omega, k + 1, ⟨⟨?_, by omega⟩, ?_⟩, by omega, by omega⟩, fun hno => ⟨by omega, k + 1, ⟨⟨?_, by omega⟩, ?_⟩, by omega, by omega⟩⟩, fun hge => ?_⟩
  · rw [hs (by omega), if_pos hy]; simp
  · rw [hs (by omega), if_pos hy]; simp
  · rw [hs (by omega), if_neg (by rw [show isN [name] (l.getD k ([], [])) = false from hno]; simp)]; simp
  · rw [hs (by omega), if_neg (by rw [show isN [name] (l.getD k ([], [])) = false from hno]; simp)]; simp
  · rw [List.take_length, List.take_of_length_le (by omega)]
def tb_specAll : List Blk → List AV → Option (List Blk × AV × Prop)
  | [], [a0, .str name] => some ([], enc_strs (allS (dec_flds a0) name), ((dec_flds a0).length ≤ 1000) ∧ (name.length ≤ maxLen) ∧ argOK a0 (enc_flds (dec_flds a0)))
  | _, _ => none
theorem tb_specAll_ok : ∀ E args E' res p, tb_specAll E args = some (E', res, p) → p → SpecE Try.prog 186 E args E' res := by
  intro E args E' res p h hp
  unfold tb_specAll at h
  split at h
  · simp only [Option.some.injEq, Prod.mk.injEq] at h
    obtain ⟨rfl, rfl, rfl⟩ := h
    exact SpecE.args (specAll _ _ hp.1 hp.2.1) (.cons hp.2.2 (.cons (argOK.refl _) .nil))
  · cases h

def T_specGet : Tbl := fun g E args => (addT (addT nilT 190 Go.Proofs.Try.Hdr.tb_specNamed) 189 Go.Proofs.Try.Hdr.tb_specIdx) g E args
theorem T_specGet_ok : TblOK Try.prog T_specGet := (addT_ok (addT_ok nilT_ok (by decide +kernel) Go.Proofs.Try.Hdr.tb_specNamed_ok) (by decide +kernel) Go.Proofs.Try.Hdr.tb_specIdx_ok)
set_option maxRecDepth 100000 in
set_option maxHeartbeats 4000000 in
theorem specGet (l : List Fld) (name : List UInt8) (hl : l.length ≤ 1000) (hn : name.length ≤ maxLen) : SpecE Try.prog 87 [] [enc_flds l, .str name] [] (.tuple [.str (getS l name), .bool (hasF l name)]) := by
  refine specF0 (C := T_specGet) (wr := false) (D := fun _ => []) (U := fun _ => none) (res := [.str (getS l name), .bool (hasF l name)]) Try.Ty.mixed T_specGet_ok Try.func87 (nA := 2) (by decide +kernel) rfl (fun _ => rfl) ?_
  simp only [Try.f87, bodyOf, rlOf]
  rw [W_V]
  simp (config := {maxSteps := 2000000}) only [T_specGet, Go.Proofs.Try.Hdr.tb_specNamed, Go.Proofs.Try.Hdr.tb_specIdx, go_sem, reduceIte, Nat.reduceEqDiff, Nat.reduceAdd, Nat.reduceMul, Nat.reduceSub, Nat.reduceBEq, Nat.reduceLT, Nat.reduceLeDiff, reduceCtorEq, Int.reduceNeg, Int.reduceEq, String.reduceEq, Int.reduceLT, Int.reduceLE, Int.reduceToNat, Int.reduceAdd, Int.reduceMul, Int.reduceSub, true_and]
  (try simp (config := {maxSteps := 2000000}) only [gimp, impB, isT, go_sem, reduceIte, Nat.reduceEqDiff, Nat.reduceAdd, Nat.reduceMul, Nat.reduceSub, Nat.reduceBEq, Nat.reduceLT, Nat.reduceLeDiff, reduceCtorEq, Int.reduceNeg, Int.reduceEq, String.reduceEq, Int.reduceLT, Int.reduceLE, Int.reduceToNat, Int.reduceAdd, Int.reduceMul, Int.reduceSub])
  have hm : (1000 : Nat) ≤ maxLen := by decide
  refine ⟨⟨by omega, hn, by omega⟩, fun h => ?_, fun h => ?_⟩
  · have hf : hasF l name = false := by
      rw [← Bool.not_eq_true]; intro hh
      have := (idxP_ge (isN [name]) l).2 hh; omega
    have he : allS l name = [] := by rw [hasF_iff] at hf; simpa using hf
    simp [getS, he, hf]
  · have hf : hasF l name = true := (idxP_ge (isN [name]) l).1 h
    obtain ⟨x, hx, hxl, hxn, hxp⟩ := idxP_some (p := isN [name]) (l := l) ([], []) (by omega)
    rw [hx]
    refine ⟨by omega, ?_, hf.symm⟩
    rw [Int.toNat_natCast]
    have e : allS l name = (l.getD x ([], [])).2 :: allS (l.drop (x + 1)) name := by
      have e0 : l = l.take x ++ l.getD x ([], []) :: l.drop (x + 1) := by
        have := getD_of_lt (s := l) (d := ([], [])) hxl
        rw [List.getElem?_eq_getElem hxl] at this
        rw [← Option.some.inj this, ← List.drop_eq_getElem_cons hxl, List.take_append_drop]
      have e1 : (l.take x).filter (isN [name]) = [] := by
        rw [List.filter_eq_nil_iff]
        exact fun f hf => List.any_eq_false.1 hxn f hf
      have e2 : ∀ m : List Fld, m = l.take x ++ l.getD x ([], []) :: l.drop (x + 1) → allS m name = (l.getD x ([], [])).2 :: allS (l.drop (x + 1)) name := by
        rintro m rfl
        simp only [allS, List.filter_append, e1, List.nil_append, List.filter_cons_of_pos hxp, List.map_cons]
      exact e2 l e0
    simp [getS, e]
def tb_specGet : List Blk → List AV → Option (List Blk × AV × Prop)
  | [], [a0, .str name] => some ([], .tuple [.str (getS (dec_flds a0) name), .bool (hasF (dec_flds a0) name)], ((dec_flds a0).length ≤ 1000) ∧ (name.length ≤ maxLen) ∧ argOK a0 (enc_flds (dec_flds a0)))
  | _, _ => none
theorem tb_specGet_ok : ∀ E args E' res p, tb_specGet E args = some (E', res, p) → p → SpecE Try.prog 87 E args E' res := by
  intro E args E' res p h hp
  unfold tb_specGet at h
  split at h
  · simp only [Option.some.injEq, Prod.mk.injEq] at h
    obtain ⟨rfl, rfl, rfl⟩ := h
    exact SpecE.args (specGet _ _ hp.1 hp.2.1) (.cons hp.2.2 (.cons (argOK.refl _) .nil))
  · cases h

def T_specCount : Tbl := fun g E args => (addT nilT 186 Go.Proofs.Try.Hdr.tb_specAll) g E args
theorem T_specCount_ok : TblOK Try.prog T_specCount := (addT_ok nilT_ok (by decide +kernel) Go.Proofs.Try.Hdr.tb_specAll_ok)
set_option maxRecDepth 100000 in
set_option maxHeartbeats 4000000 in
theorem specCount (l : List Fld) (name : List UInt8) (hl : l.length ≤ 1000) (hn : name.length ≤ maxLen) : SpecE Try.prog 84 [] [enc_flds l, .str name] [] (.int .i64 (allS l name).length) := by
  refine specF0 (C := T_specCount) (wr := false) (D := fun _ => []) (U := fun _ => none) (res := [.int .i64 (allS l name).length]) Try.Ty.mixed T_specCount_ok Try.func84 (nA := 2) (by decide +kernel) rfl (fun _ => rfl) ?_
  simp only [Try.f84, bodyOf, rlOf]
  rw [W_V]
  simp (config := {maxSteps := 2000000}) only [T_specCount, Go.Proofs.Try.Hdr.tb_specAll, go_sem, reduceIte, Nat.reduceEqDiff, Nat.reduceAdd, Nat.reduceMul, Nat.reduceSub, Nat.reduceBEq, Nat.reduceLT, Nat.reduceLeDiff, reduceCtorEq, Int.reduceNeg, Int.reduceEq, String.reduceEq, Int.reduceLT, Int.reduceLE, Int.reduceToNat, Int.reduceAdd, Int.reduceMul, Int.reduceSub]
  (try simp (config := {maxSteps := 2000000}) only [gimp, impB, isT, go_sem, reduceIte, Nat.reduceEqDiff, Nat.reduceAdd, Nat.reduceMul, Nat.reduceSub, Nat.reduceBEq, Nat.reduceLT, Nat.reduceLeDiff, reduceCtorEq, Int.reduceNeg, Int.reduceEq, String.reduceEq, Int.reduceLT, Int.reduceLE, Int.reduceToNat, Int.reduceAdd, Int.reduceMul, Int.reduceSub])
  exact ⟨hl, hn⟩
def tb_specCount : List Blk → List AV → Option (List Blk × AV × Prop)
  | [], [a0, .str name] => some ([], .int .i64 (allS (dec_flds a0) name).length, ((dec_flds a0).length ≤ 1000) ∧ (name.length ≤ maxLen) ∧ argOK a0 (enc_flds (dec_flds a0)))
  | _, _ => none
theorem tb_specCount_ok : ∀ E args E' res p, tb_specCount E args = some (E', res, p) → p → SpecE Try.prog 84 E args E' res := by
  intro E args E' res p h hp
  unfold tb_specCount at h
  split at h
  · simp only [Option.some.injEq, Prod.mk.injEq] at h
    obtain ⟨rfl, rfl, rfl⟩ := h
    exact SpecE.args (specCount _ _ hp.1 hp.2.1) (.cons hp.2.2 (.cons (argOK.refl _) .nil))
  · cases h

def T_specClone : Tbl := fun g E args => nilT g E args
theorem T_specClone_ok : TblOK Try.prog T_specClone := nilT_ok
set_option maxRecDepth 100000 in
set_option maxHeartbeats 4000000 in
theorem specClone (l : List Fld) (hl : l.length ≤ 1000000) : SpecE Try.prog 192 [] [enc_flds l] [.cells 2 false (.agg [.str [], .str []]) (l.map enc_fld)] (.ref 0 0 l.length l.length) := by
  refine specFE (C := T_specClone) (wr := false) (D := fun _ => []) (U := fun _ => none) (E := []) (E' := [.cells 2 false (.agg [.str [], .str []]) (l.map enc_fld)]) (res := [.ref 0 0 l.length l.length]) [96] Try.Ty.mixed T_specClone_ok Try.func192 (nE := 0) (nA := 1) (by decide +kernel) rfl rfl ?_
  simp only [Try.f192, bodyOf, rlOf]
  rw [W_V]
  simp (config := {maxSteps := 2000000}) only [T_specClone, go_sem, reduceIte, Nat.reduceEqDiff, Nat.reduceAdd, Nat.reduceMul, Nat.reduceSub, Nat.reduceBEq, Nat.reduceLT, Nat.reduceLeDiff, reduceCtorEq, Int.reduceNeg, Int.reduceEq, String.reduceEq, Int.reduceLT, Int.reduceLE, Int.reduceToNat, Int.reduceAdd, Int.reduceMul, Int.reduceSub]
  (try simp (config := {maxSteps := 2000000}) only [gimp, impB, isT, go_sem, reduceIte, Nat.reduceEqDiff, Nat.reduceAdd, Nat.reduceMul, Nat.reduceSub, Nat.reduceBEq, Nat.reduceLT, Nat.reduceLeDiff, reduceCtorEq, Int.reduceNeg, Int.reduceEq, String.reduceEq, Int.reduceLT, Int.reduceLE, Int.reduceToNat, Int.reduceAdd, Int.reduceMul, Int.reduceSub])
  refine ⟨fun h => ?_, by omega⟩
  have h0 : l = [] := by simpa using h
  subst h0
  simp
def tb_specClone : List Blk → List AV → Option (List Blk × AV × Prop)
  | [], [a0] => some ([.cells 2 false (.agg [.str [], .str []]) ((dec_flds a0).map enc_fld)], .ref 0 0 (dec_flds a0).length (dec_flds a0).length, ((dec_flds a0).length ≤ 1000000) ∧ argOK a0 (enc_flds (dec_flds a0)))
  | _, _ => none
theorem tb_specClone_ok : ∀ E args E' res p, tb_specClone E args = some (E', res, p) → p → SpecE Try.prog 192 E args E' res := by
  intro E args E' res p h hp
  unfold tb_specClone at h
  split at h
  · simp only [Option.some.injEq, Prod.mk.injEq] at h
    obtain ⟨rfl, rfl, rfl⟩ := h
    exact SpecE.args (specClone _ hp.1) (.cons hp.2 .nil)
  · cases h

def T_specDel : Tbl := fun g E args => nilT g E args
theorem T_specDel_ok : TblOK Try.prog T_specDel := nilT_ok
set_option maxRecDepth 100000 in
set_option maxHeartbeats 4000000 in
theorem specDel (names : List (List UInt8)) (l : List Fld) (m1 m2 : Nat) (hl : names.length ≤ maxLen) (hq : ∀ x ∈ names, x.length ≤ maxLen) (hll : l.length ≤ 1000000) (h1 : m1 = l.length) (h2 : m2 = l.length) : SpecE Try.prog 191 [.cells 2 false (.agg [.str [], .str []]) (l.map enc_fld), .cells 1 false .nils [enc_strs names]] [.ref 0 0 m1 m2, .clo 270 0 [.ptr 1 0 0 1]] [.cells 2 false (.agg [.str [], .str []]) ((delP ([], []) (isN names) l).map enc_fld), .cells 1 false .nils [enc_strs names]] (.ref 0 0 (withoutS l names).length m2) := by
  subst h1; subst h2; exact Slc.del_F (by decide) (boxList 1 _) (fun _ => rfl) (q := fun _ => True) (fun x _ => specNamedF names x.1 x.2 hl hq) l (fun _ _ => trivial) hll

def T_specCombined : Tbl := fun g E args => (addT (addT nilT 186 Go.Proofs.Try.Hdr.tb_specAll) 41 Go.Proofs.Try.Lists.tb_specJoin) g E args
theorem T_specCombined_ok : TblOK Try.prog T_specCombined := (addT_ok (addT_ok nilT_ok (by decide +kernel) Go.Proofs.Try.Hdr.tb_specAll_ok) (by decide +kernel) Go.Proofs.Try.Lists.tb_specJoin_ok)
set_option maxRecDepth 100000 in
set_option maxHeartbeats 4000000 in
theorem specCombined (l : List Fld) (name : List UInt8) (hl : l.length ≤ 1000) (hn : name.length ≤ maxLen) (hq : ∀ f ∈ l, f.2.length ≤ 1000000) : SpecE Try.prog 198 [] [enc_flds l, .str name] [] (.tuple [.str (combS l name), .bool (hasF l name)]) := by
  refine specF0 (C := T_specCombined) (wr := false) (D := fun _ => []) (U := fun _ => none) (res := [.str (combS l name), .bool (hasF l name)]) Try.Ty.mixed T_specCombined_ok Try.func198 (nA := 2) (by decide +kernel) rfl (fun _ => rfl) ?_
  simp only [Try.f198, bodyOf, rlOf]
  rw [W_V]
  simp (config := {maxSteps := 2000000}) only [T_specCombined, Go.Proofs.Try.Hdr.tb_specAll, Go.Proofs.Try.Lists.tb_specJoin, go_sem, reduceIte, Nat.reduceEqDiff, Nat.reduceAdd, Nat.reduceMul, Nat.reduceSub, Nat.reduceBEq, Nat.reduceLT, Nat.reduceLeDiff, reduceCtorEq, Int.reduceNeg, Int.reduceEq, String.reduceEq, Int.reduceLT, Int.reduceLE, Int.reduceToNat, Int.reduceAdd, Int.reduceMul, Int.reduceSub]
  (try simp (config := {maxSteps := 2000000}) only [gimp, impB, isT, go_sem, reduceIte, Nat.reduceEqDiff, Nat.reduceAdd, Nat.reduceMul, Nat.reduceSub, Nat.reduceBEq, Nat.reduceLT, Nat.reduceLeDiff, reduceCtorEq, Int.reduceNeg, Int.reduceEq, String.reduceEq, Int.reduceLT, Int.reduceLE, Int.reduceToNat, Int.reduceAdd, Int.reduceMul, Int.reduceSub])
  have h1 := allS_len l name
  have hj := joinS_len (l := allS l name) (m := 1000000) (fun e he => by obtain ⟨f, hf, rfl, _⟩ := allS_mem he; exact hq f hf)
  have hj2 : (joinS (allS l name)).length ≤ 1000 * (1000000 + 2) := Nat.le_trans hj (Nat.mul_le_mul (by omega) (Nat.le_refl _))
  rw [join_eq]
  refine ⟨⟨hl, hn⟩, ⟨by omega, by omega⟩, rfl, ?_⟩
  rw [hasF_iff]
  by_cases h : allS l name = []
  · simp [h]
  · have := List.length_pos_iff.2 h
    simp [h]; omega
def tb_specCombined : List Blk → List AV → Option (List Blk × AV × Prop)
  | [], [a0, .str name] => some ([], .tuple [.str (combS (dec_flds a0) name), .bool (hasF (dec_flds a0) name)], ((dec_flds a0).length ≤ 1000) ∧ (name.length ≤ maxLen) ∧ (∀ f ∈ (dec_flds a0), f.2.length ≤ 1000000) ∧ argOK a0 (enc_flds (dec_flds a0)))
  | _, _ => none
theorem tb_specCombined_ok : ∀ E args E' res p, tb_specCombined E args = some (E', res, p) → p → SpecE Try.prog 198 E args E' res := by
  intro E args E' res p h hp
  unfold tb_specCombined at h
  split at h
  · simp only [Option.some.injEq, Prod.mk.injEq] at h
    obtain ⟨rfl, rfl, rfl⟩ := h
    exact SpecE.args (specCombined _ _ hp.1 hp.2.1 hp.2.2.1) (.cons hp.2.2.2 (.cons (argOK.refl _) .nil))
  · cases h
end Go.Proofs.Try.Hdr
