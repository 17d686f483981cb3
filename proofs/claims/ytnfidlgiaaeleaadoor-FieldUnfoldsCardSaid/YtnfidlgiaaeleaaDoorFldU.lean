/- field: lines that go on from others. No condition beyond those that a machine's numbers bring. -/
import Derived.Test.YtnfidlgiaaeleaaDoorFld
import Derived.Test.YtnfidlgiaaeleaaDoorFldN
import Derived.Test.YtnfidlgiaaeleaaDoorTrm
import Derived.Test.YtnfidlgiaaeleaaDoorOctC
import Derived.Test.YtnfidlgiaaeleaaDoorSlcM
import Derived.Test.YtnfidlgiaaeleaaDoorLibS
set_option linter.unusedVariables false
set_option linter.unusedSimpArgs false
namespace Go.Mdl
open Go Go.Abs
abbrev Fld' := List UInt8 × List UInt8
/-- Does a line go on from the one ahead? -/
def goesB (s : List UInt8) : Bool := decide (s.take 1 = [32]) || decide (s.take 1 = [9])
def endS (s : List UInt8) : List UInt8 := cutR (fun x => decide (x ∈ [32, 9])) s
/-- The last line, and what goes on from it. -/
def joinU (out : List (List UInt8)) (x : List UInt8) : List (List UInt8) := out.set (out.length - 1) (endS (out.getD (out.length - 1) []) ++ 32 :: trimS x)
def unfStep (fold : Int) (o : Option (List (List UInt8))) (x : List UInt8) : Option (List (List UInt8)) :=
  match o with
  | none => none
  | some out => if goesB x = true then (if fold = 0 ∨ out = [] then none else some (joinU out x)) else some (out ++ [x])
def unfO (fold : Int) (l : List (List UInt8)) : Option (List (List UInt8)) := l.foldl (unfStep fold) (some [])
def unfS (fold : Int) (l : List (List UInt8)) : List (List UInt8) := (unfO fold l).getD []
def unfErr (fold : Int) (l : List (List UInt8)) : Int := if (unfO fold l).isSome = true then 0 else 3
/-- The fields of lines up to the first that is wrong. -/
def pFld (x : List UInt8) : Fld' := (fldName x, fldValue x)
def fldsGo : List (List UInt8) → Int
  | [] => 0
  | x :: r => if fldErr x = 0 then fldsGo r else fldErr x
def fldsErr (fold : Int) (l : List (List UInt8)) : Int := if unfErr fold l = 0 then fldsGo (unfS fold l) else unfErr fold l
def fldsU (fold : Int) (l : List (List UInt8)) : List Fld' := if fldsErr fold l = 0 then (unfS fold l).map pFld else []
theorem unf_none (fold : Int) (l : List (List UInt8)) : l.foldl (unfStep fold) none = none := by
  induction l with
  | nil => rfl
  | cons a r ih => exact ih
theorem unf_take {fold : Int} {l : List (List UInt8)} {k : Nat} (h : k < l.length) : unfO fold (l.take (k + 1)) = unfStep fold (unfO fold (l.take k)) (l.getD k []) := by
  rw [unfO, take_succ_getD [] h, List.foldl_append]; rfl
theorem unf_stop {fold : Int} {l : List (List UInt8)} {k : Nat} (h : unfO fold (l.take k) = none) : unfO fold l = none := by
  rw [← List.take_append_drop k l, unfO, List.foldl_append]
  show List.foldl _ (unfO fold (l.take k)) _ = none
  rw [h]; exact unf_none _ _
theorem joinU_len (out : List (List UInt8)) (x : List UInt8) : (joinU out x).length = out.length := by simp [joinU]
theorem trimU_len (s : List UInt8) : (trimS s).length ≤ s.length := trimS_len_u s
theorem unf_len {fold : Int} {l : List (List UInt8)} {B : Nat} (hB : ∀ x ∈ l, x.length ≤ B) : ∀ (k : Nat), k ≤ l.length → ∀ out, unfO fold (l.take k) = some out →
    out.length ≤ k ∧ (0 < k → out ≠ []) ∧ ∀ y ∈ out, y.length ≤ (B + 1) * k := by
  intro k
  induction k with
  | zero => intro _ out h; simp [unfO] at h; subst h; simp
  | succ k ih =>
    intro hk out h
    rw [unf_take (by omega)] at h
    have hx := hB _ (List.mem_of_getElem? (getD_of_lt (s := l) (d := []) (show k < l.length by omega)))
    generalize l.getD k [] = x at *
    cases hr : unfO fold (l.take k) with
    | none => rw [hr] at h; cases h
    | some o =>
      rw [hr] at h
      obtain ⟨i1, i2, i3⟩ := ih (by omega) o hr
      have e : (B + 1) * (k + 1) = (B + 1) * k + B + 1 := by rw [Nat.mul_add]; omega
      simp only [unfStep] at h
      split at h
      · split at h
        · cases h
        · cases h
          rename_i h1 h2
          rw [joinU_len]
          refine ⟨by omega, fun _ he => h2 (.inr ?_), fun y hy => ?_⟩
          · have := congrArg List.length he
            rw [joinU_len] at this
            exact List.eq_nil_of_length_eq_zero (by simpa using this)
          · rcases List.mem_or_eq_of_mem_set hy with hy | rfl
            · have := i3 y hy; omega
            · have h3 : o ≠ [] := fun h => h2 (.inr h)
              have h4 := List.length_pos_iff.2 h3
              have h5 := i3 _ (List.mem_of_getElem? (getD_of_lt (s := o) (d := []) (show o.length - 1 < o.length by omega)))
              have h6 := cutR_len (fun x => decide (x ∈ [32, 9])) (o.getD (o.length - 1) [])
              have h7 := trimU_len x
              simp only [endS, List.length_append, List.length_cons]
              omega
      · cases h
        refine ⟨by simp; omega, by simp, fun y hy => ?_⟩
        rcases List.mem_append.1 hy with hy | hy
        · have := i3 y hy; omega
        · obtain rfl := List.mem_singleton.1 hy; omega
theorem joinU_take {out : List (List UInt8)} (h : 0 < out.length) (x : List UInt8) : joinU out x = out.take (out.length - 1) ++ [endS (out.getD (out.length - 1) []) ++ 32 :: trimS x] := by
  rw [joinU, List.set_eq_take_append_cons_drop, if_pos (by omega), List.drop_of_length_le (by omega)]
theorem unfS_bound {fold : Int} {l : List (List UInt8)} (hl : l.length ≤ 100) (hq : ∀ x ∈ l, x.length ≤ 1000) : (unfS fold l).length ≤ 100 ∧ ∀ y ∈ unfS fold l, y.length ≤ 1000000 := by
  unfold unfS
  cases h : unfO fold l with
  | none => simp
  | some out =>
    have := unf_len hq l.length (Nat.le_refl _) out (by rw [List.take_length]; exact h)
    refine ⟨by simp only [Option.getD_some]; omega, fun y hy => ?_⟩
    have := this.2.2 y hy
    omega
theorem fldsGo_hit : ∀ {l : List (List UInt8)} {k : Nat}, k < l.length → (∀ x ∈ l.take k, fldErr x = 0) → fldErr (l.getD k []) ≠ 0 → fldsGo l = fldErr (l.getD k [])
  | [], k, h, _, _ => by simp at h
  | a :: r, 0, _, _, h => by
    have h : fldErr a ≠ 0 := h
    show (if fldErr a = 0 then fldsGo r else fldErr a) = _
    rw [if_neg h]; rfl
  | a :: r, k + 1, hk, ha, h => by
    show (if fldErr a = 0 then fldsGo r else fldErr a) = _
    rw [if_pos (ha a (by simp))]
    exact fldsGo_hit (by simpa using hk) (fun x hx => ha x (by simp [hx])) h
theorem fldsGo_all : ∀ {l : List (List UInt8)}, (∀ x ∈ l, fldErr x = 0) → fldsGo l = 0
  | [], _ => rfl
  | a :: r, h => by
    show (if fldErr a = 0 then fldsGo r else fldErr a) = _
    rw [if_pos (h a (by simp))]
    exact fldsGo_all (fun x hx => h x (by simp [hx]))
theorem take_all_next {l : List (List UInt8)} {k : Nat} (hk : k < l.length) (h : ∀ x ∈ l.take k, fldErr x = 0) (h2 : fldErr (l.getD k []) = 0) : ∀ x ∈ l.take (k + 1), fldErr x = 0 := by
  intro x hx
  rw [take_succ_getD [] hk] at hx
  rcases List.mem_append.1 hx with hx | hx
  · exact h x hx
  · obtain rfl := List.mem_singleton.1 hx; exact h2
/-- The fields of the first lines, and empty places behind. -/
def fldsAt (l : List (List UInt8)) (k : Nat) : List Fld' := (l.take k).map pFld ++ List.replicate (l.length - k) ([], [])
theorem fldsAt_len {l : List (List UInt8)} {k : Nat} (h : k ≤ l.length) : (fldsAt l k).length = l.length := by
  simp [fldsAt]; omega
theorem fldsAt_set {l : List (List UInt8)} {k : Nat} (h : k < l.length) : (fldsAt l k).set k (pFld (l.getD k [])) = fldsAt l (k + 1) := by
  have hl : ((l.take k).map pFld).length = k := by simp; omega
  rw [fldsAt, List.set_append_right _ _ (by omega), hl, Nat.sub_self, fldsAt, take_succ_getD [] h, List.map_append, List.append_assoc]
  congr 1
  rw [show l.length - k = (l.length - (k + 1)) + 1 by omega, List.replicate_succ]
  rfl
theorem fldsAt_all (l : List (List UInt8)) : fldsAt l l.length = l.map pFld := by simp [fldsAt]
end Go.Mdl
namespace Go.Proofs.Tryd.Fld
open Go Go.Abs Go.Proofs Go.Mdl

def T_specGoes : Tbl := fun g E args => (addT nilT 66 Go.Proofs.Tryd.Lib.tb_specHasPrefix) g E args
theorem T_specGoes_ok : TblOK Tryd.prog T_specGoes := (addT_ok nilT_ok (by decide +kernel) Go.Proofs.Tryd.Lib.tb_specHasPrefix_ok)
set_option maxRecDepth 100000 in
set_option maxHeartbeats 4000000 in
theorem specGoes (s : List UInt8) : SpecE Tryd.prog 43 [] [.str s] [] (.bool (goesB s)) := by
  refine specF0 (C := T_specGoes) (wr := false) (D := fun _ => []) (U := fun _ => none) (res := [.bool (goesB s)]) Tryd.Ty.mixed T_specGoes_ok Tryd.func43 (nA := 1) (by decide +kernel) rfl (fun _ => rfl) ?_
  simp only [Tryd.f43, bodyOf, rlOf]
  rw [W_V]
  simp (config := {maxSteps := 2000000}) only [T_specGoes, Go.Proofs.Tryd.Lib.tb_specHasPrefix, go_sem, reduceIte, Nat.reduceEqDiff, Nat.reduceAdd, Nat.reduceMul, Nat.reduceDiv, Nat.reduceMod, Nat.reduceSub, Nat.reduceBEq, Nat.reduceLT, Nat.reduceLeDiff, reduceCtorEq, Int.reduceNeg, Int.reduceEq, String.reduceEq, Int.reduceLT, Int.reduceLE, Int.reduceToNat, Int.reduceAdd, Int.reduceMul, Int.reduceSub]
  (try simp (config := {maxSteps := 2000000}) only [gimp, impB, isT, go_sem, reduceIte, Nat.reduceEqDiff, Nat.reduceAdd, Nat.reduceMul, Nat.reduceDiv, Nat.reduceMod, Nat.reduceSub, Nat.reduceBEq, Nat.reduceLT, Nat.reduceLeDiff, reduceCtorEq, Int.reduceNeg, Int.reduceEq, String.reduceEq, Int.reduceLT, Int.reduceLE, Int.reduceToNat, Int.reduceAdd, Int.reduceMul, Int.reduceSub])
  rcases s with _ | ⟨a, r⟩
  · rfl
  · simp only [Lib.hasPrefix, goesB, List.isPrefixOf, Bool.and_true, List.take_succ_cons, List.take_zero, List.cons.injEq, and_true]
    by_cases h1 : a = 32
    · subst h1; rfl
    · by_cases h2 : a = 9
      · subst h2; rfl
      · simp [h1, h2, Ne.symm h1, Ne.symm h2]
def tb_specGoes : List Blk → List AV → Option (List Blk × AV × Prop)
  | [], [.str s] => some ([], .bool (goesB s), True)
  | _, _ => none
theorem tb_specGoes_ok : ∀ E args E' res p, tb_specGoes E args = some (E', res, p) → p → SpecE Tryd.prog 43 E args E' res := by
  intro E args E' res p h hp
  unfold tb_specGoes at h
  split at h
  · simp only [Option.some.injEq, Prod.mk.injEq] at h
    obtain ⟨rfl, rfl, rfl⟩ := h
    exact (specGoes _)
  · cases h

def T_specJoinU : Tbl := fun g E args => (addT (addT nilT 40 Go.Proofs.Tryd.Oct.tb_specTrim) 42 Go.Proofs.Tryd.Trm.tb_specTrimRight) g E args
theorem T_specJoinU_ok : TblOK Tryd.prog T_specJoinU := (addT_ok (addT_ok nilT_ok (by decide +kernel) Go.Proofs.Tryd.Oct.tb_specTrim_ok) (by decide +kernel) Go.Proofs.Tryd.Trm.tb_specTrimRight_ok)
set_option maxRecDepth 100000 in
set_option maxHeartbeats 4000000 in
theorem specJoinU (out : List (List UInt8)) (x : List UInt8) (h0 : out ≠ []) (hl : out.length ≤ 100000) (hq : ∀ y ∈ out, y.length ≤ 1000000) (hx : x.length ≤ 1000000) : SpecE Tryd.prog 41 [.cells 1 false .nils [.ref 1 0 out.length out.length], .cells 1 false (.str []) (out.map .str)] [.str x, .ptr 0 0 0 1] [.cells 1 false .nils [.ref 1 0 out.length out.length], .cells 1 false (.str []) ((joinU out x).map .str)] (.tuple []) := by
  refine specFE (C := T_specJoinU) (wr := false) (D := fun i => if i = 1 then [12] else []) (U := fun _ => none) (E := [.cells 1 false .nils [.ref 1 0 out.length out.length], .cells 1 false (.str []) (out.map .str)]) (E' := [.cells 1 false .nils [.ref 1 0 out.length out.length], .cells 1 false (.str []) ((joinU out x).map .str)]) (res := []) [] Tryd.Ty.mixed T_specJoinU_ok Tryd.func41 (args := [.str x, .ptr 0 0 0 1]) (nE := 2) (nA := 2) (by decide +kernel) rfl rfl ?_
  simp only [Tryd.f41, bodyOf, rlOf]
  rw [W_V]
  simp (config := {maxSteps := 2000000}) only [T_specJoinU, Go.Proofs.Tryd.Oct.tb_specTrim, Go.Proofs.Tryd.Trm.tb_specTrimRight, go_sem, reduceIte, Nat.reduceEqDiff, Nat.reduceAdd, Nat.reduceMul, Nat.reduceDiv, Nat.reduceMod, Nat.reduceSub, Nat.reduceBEq, Nat.reduceLT, Nat.reduceLeDiff, reduceCtorEq, Int.reduceNeg, Int.reduceEq, String.reduceEq, Int.reduceLT, Int.reduceLE, Int.reduceToNat, Int.reduceAdd, Int.reduceMul, Int.reduceSub]
  (try simp (config := {maxSteps := 2000000}) only [gimp, impB, isT, go_sem, reduceIte, Nat.reduceEqDiff, Nat.reduceAdd, Nat.reduceMul, Nat.reduceDiv, Nat.reduceMod, Nat.reduceSub, Nat.reduceBEq, Nat.reduceLT, Nat.reduceLeDiff, reduceCtorEq, Int.reduceNeg, Int.reduceEq, String.reduceEq, Int.reduceLT, Int.reduceLE, Int.reduceToNat, Int.reduceAdd, Int.reduceMul, Int.reduceSub])
  have h1 := List.length_pos_iff.2 h0
  have h2 := hq _ (List.mem_of_getElem? (getD_of_lt (s := out) (d := []) (show out.length - 1 < out.length by omega)))
  have h3 := trimU_len x
  have h4 := cutR_len (fun x => decide (x ∈ [32, 9])) (out.getD (out.length - 1) [])
  have e : (out.map AV.str).set (out.length - 1) (AV.str (cutR (fun x => decide (x = 32 ∨ x = 9)) (out.getD (out.length - 1) []) ++ 32 :: trimS x)) = (joinU out x).map .str := by
    simp [joinU, endS, List.map_set]
  have hm : (1000000 : Nat) ≤ maxLen := by decide
  have h4' : (cutR (fun x => decide (x = 32 ∨ x = 9)) (out.getD (out.length - 1) [])).length ≤ 1000000 := by simpa using Nat.le_trans h4 h2
  rw [Nat.zero_add, e]
  refine ⟨by omega, by omega, by omega, ⟨by decide, by omega⟩, by omega, by omega, ?_, by omega, by omega, rfl, rfl⟩
  rw [List.length_append]; simp only [List.length_cons, List.length_nil]; omega

def tb_specJoinU : List Blk → List AV → Option (List Blk × AV × Prop)
  | [.cells 1 false d0 [.ref 1 0 n m], .cells 1 false d1 c], [.str x, .ptr 0 0 0 1] =>
    some ([.cells 1 false .nils [.ref 1 0 c.length c.length], .cells 1 false (.str []) ((joinU (c.map toStr) x).map .str)], .tuple [],
      d0 = .nils ∧ d1 = .str [] ∧ n = c.length ∧ m = c.length ∧ (c.map toStr).map .str = c ∧ c ≠ [] ∧ c.length ≤ 100000 ∧ (∀ y ∈ c.map toStr, y.length ≤ 1000000) ∧ x.length ≤ 1000000)
  | _, _ => none
theorem tb_specJoinU_ok : ∀ E args E' res q, tb_specJoinU E args = some (E', res, q) → q → SpecE Tryd.prog 41 E args E' res := by
  intro E args E' res q h hq
  unfold tb_specJoinU at h
  split at h
  · rename_i d0 n m d1 c x
    simp only [Option.some.injEq, Prod.mk.injEq] at h
    obtain ⟨rfl, rfl, rfl⟩ := h
    obtain ⟨rfl, rfl, rfl, rfl, h1, h2, h3, h4, h5⟩ := hq
    have := specJoinU (c.map toStr) x (by simpa using h2) (by rw [List.length_map]; exact h3) h4 h5
    rw [h1, List.length_map] at this
    exact this
  · cases h

def T_specUnfold : Tbl := fun g E args => (addT (addT nilT 43 Go.Proofs.Tryd.Fld.tb_specGoes) 41 Go.Proofs.Tryd.Fld.tb_specJoinU) g E args
theorem T_specUnfold_ok : TblOK Tryd.prog T_specUnfold := (addT_ok (addT_ok nilT_ok (by decide +kernel) Go.Proofs.Tryd.Fld.tb_specGoes_ok) (by decide +kernel) Go.Proofs.Tryd.Fld.tb_specJoinU_ok)
set_option maxRecDepth 100000 in
set_option maxHeartbeats 4000000 in
theorem specUnfold (fold : Int) (l : List (List UInt8)) (hl : l.length ≤ 100) (hq : ∀ x ∈ l, x.length ≤ 1000) : SpecE Tryd.prog 20 [] [.int .i64 fold, enc_strs l] [] (.tuple [enc_strs (unfS fold l), .int .i64 (unfErr fold l)]) := by
  refine specF0 (C := T_specUnfold) (wr := false) (D := fun _ => []) (U := fun _ => none) (res := [enc_strs (unfS fold l), .int .i64 (unfErr fold l)]) Tryd.Ty.mixed T_specUnfold_ok Tryd.func20 (nA := 2) (by decide +kernel) rfl (fun _ => rfl) ?_
  simp only [Tryd.f20, bodyOf, rlOf]
  rw [W_V]
  simp (config := {maxSteps := 2000000}) only [T_specUnfold, Go.Proofs.Tryd.Fld.tb_specGoes, Go.Proofs.Tryd.Fld.tb_specJoinU, go_sem, reduceIte, Nat.reduceEqDiff, Nat.reduceAdd, Nat.reduceMul, Nat.reduceDiv, Nat.reduceMod, Nat.reduceSub, Nat.reduceBEq, Nat.reduceLT, Nat.reduceLeDiff, reduceCtorEq, Int.reduceNeg, Int.reduceEq, String.reduceEq, Int.reduceLT, Int.reduceLE, Int.reduceToNat, Int.reduceAdd, Int.reduceMul, Int.reduceSub]
  (try simp (config := {maxSteps := 2000000}) only [gimp, impB, isT, go_sem, reduceIte, Nat.reduceEqDiff, Nat.reduceAdd, Nat.reduceMul, Nat.reduceDiv, Nat.reduceMod, Nat.reduceSub, Nat.reduceBEq, Nat.reduceLT, Nat.reduceLeDiff, reduceCtorEq, Int.reduceNeg, Int.reduceEq, String.reduceEq, Int.reduceLT, Int.reduceLE, Int.reduceToNat, Int.reduceAdd, Int.reduceMul, Int.reduceSub])
  refine VL_inv (X := Nat × List (List UInt8)) (fun y => ⟨[(0, .int .i64 fold), (6, .ptr 112 0 0 1), (7, .clo 41 0 [.ptr 112 0 0 1]), (11, enc_strs l), (12, .int .i64 l.length), (13, .int .i64 y.1)], [(112, .cells 1 false .nils [.ref 448 0 y.2.length y.2.length]), (448, .cells 1 false (.str []) (y.2.map .str))]⟩) (fun y => y.1 ≤ l.length ∧ unfO fold (l.take y.1) = some y.2) (fun y => l.length - y.1) (0, []) ?_ ?_ ?_
  · simp only [List.map_nil, T_specUnfold, Go.Proofs.Tryd.Fld.tb_specGoes, Go.Proofs.Tryd.Fld.tb_specJoinU, go_sem, reduceIte, Nat.reduceEqDiff, Nat.reduceAdd, Nat.reduceMul, Nat.reduceDiv, Nat.reduceMod, Nat.reduceSub, Nat.reduceBEq, Nat.reduceLT, Nat.reduceLeDiff, reduceCtorEq, Int.reduceNeg, Int.reduceEq, String.reduceEq, Int.reduceLT, Int.reduceLE, Int.reduceToNat, Int.reduceAdd, Int.reduceMul, Int.reduceSub]
    try rfl
  · exact ⟨Nat.zero_le _, rfl⟩
  rintro ⟨k, out⟩ ⟨hk, ho⟩
  simp only at hk ho
  simp (config := {maxSteps := 2000000}) only [T_specUnfold, Go.Proofs.Tryd.Fld.tb_specGoes, Go.Proofs.Tryd.Fld.tb_specJoinU, go_sem, reduceIte, Nat.reduceEqDiff, Nat.reduceAdd, Nat.reduceMul, Nat.reduceDiv, Nat.reduceMod, Nat.reduceSub, Nat.reduceBEq, Nat.reduceLT, Nat.reduceLeDiff, reduceCtorEq, Int.reduceNeg, Int.reduceEq, String.reduceEq, Int.reduceLT, Int.reduceLE, Int.reduceToNat, Int.reduceAdd, Int.reduceMul, Int.reduceSub]
  (try simp (config := {maxSteps := 2000000}) only [gimp, impB, isT, go_sem, reduceIte, Nat.reduceEqDiff, Nat.reduceAdd, Nat.reduceMul, Nat.reduceDiv, Nat.reduceMod, Nat.reduceSub, Nat.reduceBEq, Nat.reduceLT, Nat.reduceLeDiff, reduceCtorEq, Int.reduceNeg, Int.reduceEq, String.reduceEq, Int.reduceLT, Int.reduceLE, Int.reduceToNat, Int.reduceAdd, Int.reduceMul, Int.reduceSub])
  have h1 := unf_take (fold := fold) (l := l) (k := k)
  rw [ho] at h1
  obtain ⟨u1, u2, u3⟩ := unf_len hq k hk out ho
  have u4 : (1000 + 1) * k ≤ 1000000 := by omega
  have hx := fun h : k < l.length => hq _ (List.mem_of_getElem? (getD_of_lt (s := l) (d := []) h))
  have stop : unfO fold l = none → unfS fold l = [] ∧ 3 = unfErr fold l := fun h => by simp [unfS, unfErr, h]
  refine ⟨fun hlt => ⟨by omega, fun hg => ⟨by omega, by omega, (k + 1, out ++ [l.getD k []]), ⟨rfl, by simp, by simp⟩, ⟨by simp only; omega, ?_⟩, by simp only; omega⟩, fun hg => ⟨fun h => ?_, fun hf ho0 => ⟨⟨?_, by omega, fun y hy => by have := u3 y hy; omega, by have := hx (by omega); omega⟩, by omega, (k + 1, joinU out (l.getD k [])), ⟨rfl, by simp only [joinU_len], rfl⟩, ⟨by simp only; omega, ?_⟩, by simp only; omega⟩⟩⟩, fun hge => ?_⟩
  · rw [h1 (by omega)]; simp only [unfStep, hg]; simp
  · have hn : unfO fold (l.take (k + 1)) = none := by
      rw [h1 (by omega)]; simp only [unfStep, hg, if_true]
      rw [if_pos]
      rcases h with h | h
      · exact .inl h
      · exact .inr (List.eq_nil_of_length_eq_zero (by omega))
    obtain ⟨a, b⟩ := stop (unf_stop hn)
    exact ⟨by rw [a]; rfl, b⟩
  · intro h; apply ho0; rw [List.map_eq_nil_iff] at h; rw [h]; rfl
  · rw [h1 (by omega)]; simp only [unfStep, hg, if_true]
    rw [if_neg]
    rintro (h | h)
    · exact hf h
    · apply ho0; rw [h]; rfl
  · have : k = l.length := by omega
    subst this
    rw [List.take_length] at ho
    rw [List.take_length, unfS, unfErr, ho]; exact ⟨rfl, rfl⟩
def tb_specUnfold : List Blk → List AV → Option (List Blk × AV × Prop)
  | [], [.int .i64 fold, a1] => some ([], .tuple [enc_strs (unfS fold (dec_strs a1)), .int .i64 (unfErr fold (dec_strs a1))], ((dec_strs a1).length ≤ 100) ∧ (∀ x ∈ (dec_strs a1), x.length ≤ 1000) ∧ argOK a1 (enc_strs (dec_strs a1)))
  | _, _ => none
theorem tb_specUnfold_ok : ∀ E args E' res p, tb_specUnfold E args = some (E', res, p) → p → SpecE Tryd.prog 20 E args E' res := by
  intro E args E' res p h hp
  unfold tb_specUnfold at h
  split at h
  · simp only [Option.some.injEq, Prod.mk.injEq] at h
    obtain ⟨rfl, rfl, rfl⟩ := h
    exact SpecE.args (specUnfold _ _ hp.1 hp.2.1) (.cons (argOK.refl _) (.cons hp.2.2 .nil))
  · cases h

def T_specGoesR : Tbl := fun g E args => nilT g E args
theorem T_specGoesR_ok : TblOK Tryd.prog T_specGoesR := nilT_ok
set_option maxRecDepth 100000 in
set_option maxHeartbeats 4000000 in
theorem specGoesR (s : List UInt8) : SpecE Tryd.prog 19 [] [.str s] [] (.bool (goesB s)) := by
  refine specF0 (C := T_specGoesR) (wr := false) (D := fun _ => []) (U := fun _ => none) (res := [.bool (goesB s)]) Tryd.Ty.mixed T_specGoesR_ok Tryd.func19 (nA := 1) (by decide +kernel) rfl (fun _ => rfl) ?_
  simp only [Tryd.f19, bodyOf, rlOf]
  rw [W_V]
  simp (config := {maxSteps := 2000000}) only [T_specGoesR, go_sem, reduceIte, Nat.reduceEqDiff, Nat.reduceAdd, Nat.reduceMul, Nat.reduceDiv, Nat.reduceMod, Nat.reduceSub, Nat.reduceBEq, Nat.reduceLT, Nat.reduceLeDiff, reduceCtorEq, Int.reduceNeg, Int.reduceEq, String.reduceEq, Int.reduceLT, Int.reduceLE, Int.reduceToNat, Int.reduceAdd, Int.reduceMul, Int.reduceSub]
  (try simp (config := {maxSteps := 2000000}) only [gimp, impB, isT, go_sem, reduceIte, Nat.reduceEqDiff, Nat.reduceAdd, Nat.reduceMul, Nat.reduceDiv, Nat.reduceMod, Nat.reduceSub, Nat.reduceBEq, Nat.reduceLT, Nat.reduceLeDiff, reduceCtorEq, Int.reduceNeg, Int.reduceEq, String.reduceEq, Int.reduceLT, Int.reduceLE, Int.reduceToNat, Int.reduceAdd, Int.reduceMul, Int.reduceSub])
  rcases s with _ | ⟨a, r⟩
  · exact ⟨fun h => by simp at h, rfl⟩
  · refine ⟨fun h _ => h, ?_⟩
    have : (0 : Int) < ((a :: r).length : Int) := by simp only [List.length_cons]; omega
    rw [decide_eq_true this]
    simp [goesB]
def tb_specGoesR : List Blk → List AV → Option (List Blk × AV × Prop)
  | [], [.str s] => some ([], .bool (goesB s), True)
  | _, _ => none
theorem tb_specGoesR_ok : ∀ E args E' res p, tb_specGoesR E args = some (E', res, p) → p → SpecE Tryd.prog 19 E args E' res := by
  intro E args E' res p h hp
  unfold tb_specGoesR at h
  split at h
  · simp only [Option.some.injEq, Prod.mk.injEq] at h
    obtain ⟨rfl, rfl, rfl⟩ := h
    exact (specGoesR _)
  · cases h

def T_specEndR : Tbl := fun g E args => nilT g E args
theorem T_specEndR_ok : TblOK Tryd.prog T_specEndR := nilT_ok
set_option maxRecDepth 100000 in
set_option maxHeartbeats 4000000 in
theorem specEndR (s : List UInt8) (hs : s.length ≤ 1000000) : SpecE Tryd.prog 44 [] [.str s] [] (.str (endS s)) := by
  refine specF0 (C := T_specEndR) (wr := false) (D := fun _ => []) (U := fun _ => none) (res := [.str (endS s)]) Tryd.Ty.mixed T_specEndR_ok Tryd.func44 (nA := 1) (by decide +kernel) rfl (fun _ => rfl) ?_
  simp only [Tryd.f44, bodyOf, rlOf]
  rw [W_V]
  simp (config := {maxSteps := 2000000}) only [T_specEndR, go_sem, reduceIte, Nat.reduceEqDiff, Nat.reduceAdd, Nat.reduceMul, Nat.reduceDiv, Nat.reduceMod, Nat.reduceSub, Nat.reduceBEq, Nat.reduceLT, Nat.reduceLeDiff, reduceCtorEq, Int.reduceNeg, Int.reduceEq, String.reduceEq, Int.reduceLT, Int.reduceLE, Int.reduceToNat, Int.reduceAdd, Int.reduceMul, Int.reduceSub]
  (try simp (config := {maxSteps := 2000000}) only [gimp, impB, isT, go_sem, reduceIte, Nat.reduceEqDiff, Nat.reduceAdd, Nat.reduceMul, Nat.reduceDiv, Nat.reduceMod, Nat.reduceSub, Nat.reduceBEq, Nat.reduceLT, Nat.reduceLeDiff, reduceCtorEq, Int.reduceNeg, Int.reduceEq, String.reduceEq, Int.reduceLT, Int.reduceLE, Int.reduceToNat, Int.reduceAdd, Int.reduceMul, Int.reduceSub])
  refine VL_inv (X := List UInt8) (fun x => ⟨[(0, .str x)], []⟩) (fun x => x.length ≤ s.length ∧ endS s = endS x) (fun x => x.length) s ?_ ?_ ?_
  · simp only [T_specEndR, go_sem, reduceIte, Nat.reduceEqDiff, Nat.reduceAdd, Nat.reduceMul, Nat.reduceDiv, Nat.reduceMod, Nat.reduceSub, Nat.reduceBEq, Nat.reduceLT, Nat.reduceLeDiff, reduceCtorEq, Int.reduceNeg, Int.reduceEq, String.reduceEq, Int.reduceLT, Int.reduceLE, Int.reduceToNat, Int.reduceAdd, Int.reduceMul, Int.reduceSub]
    try rfl
  · exact ⟨Nat.le_refl _, rfl⟩
  rintro x ⟨h1, h2⟩
  simp (config := {maxSteps := 2000000}) only [T_specEndR, go_sem, reduceIte, Nat.reduceEqDiff, Nat.reduceAdd, Nat.reduceMul, Nat.reduceDiv, Nat.reduceMod, Nat.reduceSub, Nat.reduceBEq, Nat.reduceLT, Nat.reduceLeDiff, reduceCtorEq, Int.reduceNeg, Int.reduceEq, String.reduceEq, Int.reduceLT, Int.reduceLE, Int.reduceToNat, Int.reduceAdd, Int.reduceMul, Int.reduceSub]
  (try simp (config := {maxSteps := 2000000}) only [gimp, impB, isT, go_sem, reduceIte, Nat.reduceEqDiff, Nat.reduceAdd, Nat.reduceMul, Nat.reduceDiv, Nat.reduceMod, Nat.reduceSub, Nat.reduceBEq, Nat.reduceLT, Nat.reduceLeDiff, reduceCtorEq, Int.reduceNeg, Int.reduceEq, String.reduceEq, Int.reduceLT, Int.reduceLE, Int.reduceToNat, Int.reduceAdd, Int.reduceMul, Int.reduceSub])
  have hp : ∀ b : UInt8, decide (b ∈ [32, 9]) = (decide (b = 32) || decide (b = 9)) := fun b => by simp [Bool.decide_or]
  refine ⟨⟨fun _ => by omega, fun _ => by omega⟩, ⟨fun _ => by omega, fun _ => by omega⟩, ⟨fun _ _ => by omega, fun _ _ => by omega⟩, ⟨fun _ _ => by omega, fun _ _ => by omega⟩, fun h hc => ⟨by omega, by omega, _, rfl, ⟨by rw [List.length_take]; omega, ?_⟩, by rw [List.length_take]; omega⟩, fun h => ?_⟩
  · rw [h2, endS, cutR_cut (by omega) (by rw [hp]; simpa using hc), endS]
  · rw [h2, endS]
    by_cases h0 : 0 < x.length
    · have h0' : (0 : Int) < x.length := by omega
      rw [decide_eq_true h0', Bool.true_and] at h
      rw [cutR_stop h0 (by rw [hp]; exact h)]
    · have : x = [] := List.eq_nil_of_length_eq_zero (by omega)
      subst this; rfl
def tb_specEndR : List Blk → List AV → Option (List Blk × AV × Prop)
  | [], [.str s] => some ([], .str (endS s), (s.length ≤ 1000000))
  | _, _ => none
theorem tb_specEndR_ok : ∀ E args E' res p, tb_specEndR E args = some (E', res, p) → p → SpecE Tryd.prog 44 E args E' res := by
  intro E args E' res p h hp
  unfold tb_specEndR at h
  split at h
  · simp only [Option.some.injEq, Prod.mk.injEq] at h
    obtain ⟨rfl, rfl, rfl⟩ := h
    exact (specEndR _ hp)
  · cases h

def T_specUnfoldR : Tbl := fun g E args => (addT (addT (addT nilT 19 Go.Proofs.Tryd.Fld.tb_specGoesR) 44 Go.Proofs.Tryd.Fld.tb_specEndR) 45 Go.Proofs.Tryd.Oct.tb_specTrimR) g E args
theorem T_specUnfoldR_ok : TblOK Tryd.prog T_specUnfoldR := (addT_ok (addT_ok (addT_ok nilT_ok (by decide +kernel) Go.Proofs.Tryd.Fld.tb_specGoesR_ok) (by decide +kernel) Go.Proofs.Tryd.Fld.tb_specEndR_ok) (by decide +kernel) Go.Proofs.Tryd.Oct.tb_specTrimR_ok)
set_option maxRecDepth 100000 in
set_option maxHeartbeats 4000000 in
theorem specUnfoldR (fold : Int) (l : List (List UInt8)) (hl : l.length ≤ 100) (hq : ∀ x ∈ l, x.length ≤ 1000) : SpecE Tryd.prog 22 [] [.int .i64 fold, enc_strs l] [] (.tuple [enc_strs (unfS fold l), .int .i64 (unfErr fold l)]) := by
  refine specF0 (C := T_specUnfoldR) (wr := false) (D := fun i => if i = 10 then [0, 4, 17, 18, 10160, 50160, 40160, 80160, 90160, 140160, 150160, 100160, 160160] else []) (U := fun _ => none) (res := [enc_strs (unfS fold l), .int .i64 (unfErr fold l)]) Tryd.Ty.mixed T_specUnfoldR_ok Tryd.func22 (nA := 2) (by decide +kernel) rfl (fun _ => rfl) ?_
  simp only [Tryd.f22, bodyOf, rlOf]
  rw [W_V]
  simp (config := {maxSteps := 2000000}) only [T_specUnfoldR, Go.Proofs.Tryd.Fld.tb_specGoesR, Go.Proofs.Tryd.Fld.tb_specEndR, Go.Proofs.Tryd.Oct.tb_specTrimR, go_sem, reduceIte, Nat.reduceEqDiff, Nat.reduceAdd, Nat.reduceMul, Nat.reduceDiv, Nat.reduceMod, Nat.reduceSub, Nat.reduceBEq, Nat.reduceLT, Nat.reduceLeDiff, reduceCtorEq, Int.reduceNeg, Int.reduceEq, String.reduceEq, Int.reduceLT, Int.reduceLE, Int.reduceToNat, Int.reduceAdd, Int.reduceMul, Int.reduceSub]
  (try simp (config := {maxSteps := 2000000}) only [gimp, impB, isT, go_sem, reduceIte, Nat.reduceEqDiff, Nat.reduceAdd, Nat.reduceMul, Nat.reduceDiv, Nat.reduceMod, Nat.reduceSub, Nat.reduceBEq, Nat.reduceLT, Nat.reduceLeDiff, reduceCtorEq, Int.reduceNeg, Int.reduceEq, String.reduceEq, Int.reduceLT, Int.reduceLE, Int.reduceToNat, Int.reduceAdd, Int.reduceMul, Int.reduceSub])
  refine VL_invS [(624, 160)] (X := Nat × List (List UInt8)) (fun y => ⟨[(0, .int .i64 fold), (1, enc_strs l), (6, .ref 160 0 y.2.length y.2.length), (7, .int .i64 y.1)], [(160, .cells 1 false (.str []) (y.2.map .str))]⟩) (fun y => y.1 ≤ l.length ∧ unfO fold (l.take y.1) = some y.2) (fun y => l.length - y.1) (0, []) ?_ ?_ ?_
  · simp only [List.map_nil, T_specUnfoldR, Go.Proofs.Tryd.Fld.tb_specGoesR, Go.Proofs.Tryd.Fld.tb_specEndR, Go.Proofs.Tryd.Oct.tb_specTrimR, go_sem, reduceIte, Nat.reduceEqDiff, Nat.reduceAdd, Nat.reduceMul, Nat.reduceDiv, Nat.reduceMod, Nat.reduceSub, Nat.reduceBEq, Nat.reduceLT, Nat.reduceLeDiff, reduceCtorEq, Int.reduceNeg, Int.reduceEq, String.reduceEq, Int.reduceLT, Int.reduceLE, Int.reduceToNat, Int.reduceAdd, Int.reduceMul, Int.reduceSub]
    try rfl
  · exact ⟨Nat.zero_le _, rfl⟩
  rintro ⟨k, out⟩ ⟨hk, ho⟩
  simp only at hk ho
  simp (config := {maxSteps := 2000000}) only [T_specUnfoldR, Go.Proofs.Tryd.Fld.tb_specGoesR, Go.Proofs.Tryd.Fld.tb_specEndR, Go.Proofs.Tryd.Oct.tb_specTrimR, go_sem, reduceIte, Nat.reduceEqDiff, Nat.reduceAdd, Nat.reduceMul, Nat.reduceDiv, Nat.reduceMod, Nat.reduceSub, Nat.reduceBEq, Nat.reduceLT, Nat.reduceLeDiff, reduceCtorEq, Int.reduceNeg, Int.reduceEq, String.reduceEq, Int.reduceLT, Int.reduceLE, Int.reduceToNat, Int.reduceAdd, Int.reduceMul, Int.reduceSub]
  (try simp (config := {maxSteps := 2000000}) only [gimp, impB, isT, go_sem, reduceIte, Nat.reduceEqDiff, Nat.reduceAdd, Nat.reduceMul, Nat.reduceDiv, Nat.reduceMod, Nat.reduceSub, Nat.reduceBEq, Nat.reduceLT, Nat.reduceLeDiff, reduceCtorEq, Int.reduceNeg, Int.reduceEq, String.reduceEq, Int.reduceLT, Int.reduceLE, Int.reduceToNat, Int.reduceAdd, Int.reduceMul, Int.reduceSub])
  have h1 := unf_take (fold := fold) (l := l) (k := k)
  rw [ho] at h1
  obtain ⟨u1, u2, u3⟩ := unf_len hq k hk out ho
  have u4 : (1000 + 1) * k ≤ 1000000 := by omega
  have hx := fun h : k < l.length => hq _ (List.mem_of_getElem? (getD_of_lt (s := l) (d := []) h))
  have stop : unfO fold l = none → unfS fold l = [] ∧ 3 = unfErr fold l := fun h => by simp [unfS, unfErr, h]
  refine ⟨fun hlt => ⟨by omega, fun hg => ⟨by omega, by omega, by omega, (k + 1, out ++ [l.getD k []]), ⟨.inl ⟨⟨by simp, rfl⟩, by simp⟩, ⟨by simp only; omega, ?_⟩, by simp only; omega⟩⟩, fun hg => ⟨fun h => ?_, fun hf ho0 => ?_⟩⟩, fun hge => ?_⟩
  · rw [h1 (by omega)]; simp only [unfStep, hg]; simp
  · have hn : unfO fold (l.take (k + 1)) = none := by
      rw [h1 (by omega)]; simp only [unfStep, hg, if_true]
      rw [if_pos]
      rcases h with h | h
      · exact .inl h
      · exact .inr (List.eq_nil_of_length_eq_zero (by omega))
    obtain ⟨a, b⟩ := stop (unf_stop hn)
    exact ⟨by rw [a]; rfl, b⟩
  · have hne : out ≠ [] := u2 (by omega)
    have hpos := List.length_pos_iff.2 hne
    have h2 := u3 _ (List.mem_of_getElem? (getD_of_lt (s := out) (d := []) (show out.length - 1 < out.length by omega)))
    have h3 := trimU_len (l.getD k [])
    have h4 := cutR_len (fun x => decide (x ∈ [32, 9])) (out.getD (out.length - 1) [])
    have h4' : (endS (out.getD (out.length - 1) [])).length ≤ 1000000 := Nat.le_trans h4 (by omega)
    have h5 := hx (by omega)
    have h6 : (out.take (out.length - 1)).length = out.length - 1 := by rw [List.length_take]; omega
    have hm : (1000000 : Nat) ≤ maxLen := by decide
    have hr : ∀ (σ : Nat → Nat) (l : List (List UInt8)), (l.map AV.str).map (ren σ) = l.map .str := fun σ l => ren_map (fun _ => rfl) l
    simp only [Nat.zero_add, h6]
    refine ⟨by omega, by omega, by omega, by omega, by omega, by omega, by omega, by omega, by omega, ?_, ⟨by first | trivial | omega, by omega, by omega⟩, by omega, (k + 1, joinU out (l.getD k [])), .inr ⟨⟨by simp only [joinU_len]; omega, rfl⟩, ?_⟩, ⟨by simp only; omega, ?_⟩, by simp only; omega⟩
    · rw [List.length_append]; simp only [List.length_cons, List.length_nil]; omega
    · rw [joinU_take hpos, List.map_append, List.map_append, hr]
      rfl
    · rw [h1 (by omega)]; simp only [unfStep, hg, if_true]
      rw [if_neg]
      rintro (h | h)
      · exact hf h
      · exact hne h
  · have : k = l.length := by omega
    subst this
    rw [List.take_length] at ho
    rw [List.take_length, unfS, unfErr, ho]; exact ⟨rfl, rfl⟩
def tb_specUnfoldR : List Blk → List AV → Option (List Blk × AV × Prop)
  | [], [.int .i64 fold, a1] => some ([], .tuple [enc_strs (unfS fold (dec_strs a1)), .int .i64 (unfErr fold (dec_strs a1))], ((dec_strs a1).length ≤ 100) ∧ (∀ x ∈ (dec_strs a1), x.length ≤ 1000) ∧ argOK a1 (enc_strs (dec_strs a1)))
  | _, _ => none
theorem tb_specUnfoldR_ok : ∀ E args E' res p, tb_specUnfoldR E args = some (E', res, p) → p → SpecE Tryd.prog 22 E args E' res := by
  intro E args E' res p h hp
  unfold tb_specUnfoldR at h
  split at h
  · simp only [Option.some.injEq, Prod.mk.injEq] at h
    obtain ⟨rfl, rfl, rfl⟩ := h
    exact SpecE.args (specUnfoldR _ _ hp.1 hp.2.1) (.cons (argOK.refl _) (.cons hp.2.2 .nil))
  · cases h

def T_specAllU : Tbl := fun g E args => (addT (addT nilT 20 Go.Proofs.Tryd.Fld.tb_specUnfold) 16 Go.Proofs.Tryd.Fld.tb_specParse) g E args
theorem T_specAllU_ok : TblOK Tryd.prog T_specAllU := (addT_ok (addT_ok nilT_ok (by decide +kernel) Go.Proofs.Tryd.Fld.tb_specUnfold_ok) (by decide +kernel) Go.Proofs.Tryd.Fld.tb_specParse_ok)
set_option maxRecDepth 100000 in
set_option maxHeartbeats 4000000 in
theorem specAllU (fold : Int) (l : List (List UInt8)) (hl : l.length ≤ 100) (hq : ∀ x ∈ l, x.length ≤ 1000) : SpecE Tryd.prog 23 [] [.int .i64 fold, enc_strs l] [] (.tuple [enc_flds (fldsU fold l), .int .i64 (fldsErr fold l)]) := by
  refine specF0 (C := T_specAllU) (wr := false) (D := fun _ => []) (U := fun _ => none) (res := [enc_flds (fldsU fold l), .int .i64 (fldsErr fold l)]) Tryd.Ty.mixed T_specAllU_ok Tryd.func23 (nA := 2) (by decide +kernel) rfl (fun _ => rfl) ?_
  simp only [Tryd.f23, bodyOf, rlOf]
  rw [W_V]
  simp (config := {maxSteps := 2000000}) only [T_specAllU, Go.Proofs.Tryd.Fld.tb_specUnfold, Go.Proofs.Tryd.Fld.tb_specParse, go_sem, reduceIte, Nat.reduceEqDiff, Nat.reduceAdd, Nat.reduceMul, Nat.reduceDiv, Nat.reduceMod, Nat.reduceSub, Nat.reduceBEq, Nat.reduceLT, Nat.reduceLeDiff, reduceCtorEq, Int.reduceNeg, Int.reduceEq, String.reduceEq, Int.reduceLT, Int.reduceLE, Int.reduceToNat, Int.reduceAdd, Int.reduceMul, Int.reduceSub]
  (try simp (config := {maxSteps := 2000000}) only [gimp, impB, isT, go_sem, reduceIte, Nat.reduceEqDiff, Nat.reduceAdd, Nat.reduceMul, Nat.reduceDiv, Nat.reduceMod, Nat.reduceSub, Nat.reduceBEq, Nat.reduceLT, Nat.reduceLeDiff, reduceCtorEq, Int.reduceNeg, Int.reduceEq, String.reduceEq, Int.reduceLT, Int.reduceLE, Int.reduceToNat, Int.reduceAdd, Int.reduceMul, Int.reduceSub])
  obtain ⟨b1, b2⟩ := unfS_bound (fold := fold) hl hq
  have herr : unfErr fold l = 0 → fldsErr fold l = fldsGo (unfS fold l) := fun h => by rw [fldsErr, if_pos h]
  have hout : fldsErr fold l ≠ 0 → fldsU fold l = [] := fun h => by rw [fldsU, if_neg h]
  refine ⟨⟨hl, hq⟩, fun h => ⟨?_, ?_⟩, fun h => ⟨⟨by omega, by omega, by omega⟩, ?_⟩⟩
  · rw [hout (by rw [fldsErr, if_neg h]; exact h)]; rfl
  · rw [fldsErr, if_neg h]
  rw [herr h] at hout
  rw [herr h]
  refine VL_inv (X := Nat) (fun k => ⟨[(8, .ref 368 0 (unfS fold l).length (unfS fold l).length), (23, enc_strs (unfS fold l)), (24, .int .i64 (unfS fold l).length), (25, .int .i64 k)], [(368, .cells 2 false (.agg [.str [], .str []]) ((fldsAt (unfS fold l) k).map enc_fld))]⟩) (fun k => k ≤ (unfS fold l).length ∧ ∀ x ∈ (unfS fold l).take k, fldErr x = 0) (fun k => (unfS fold l).length - k) 0 ?_ ?_ ?_
  · have e : (fldsAt (unfS fold l) 0).map enc_fld = List.replicate (unfS fold l).length (.agg [.str [], .str []]) := by simp [fldsAt, enc_fld]
    simp only [T_specAllU, Go.Proofs.Tryd.Fld.tb_specUnfold, Go.Proofs.Tryd.Fld.tb_specParse, go_sem, reduceIte, Nat.reduceEqDiff, Nat.reduceAdd, Nat.reduceMul, Nat.reduceDiv, Nat.reduceMod, Nat.reduceSub, Nat.reduceBEq, Nat.reduceLT, Nat.reduceLeDiff, reduceCtorEq, Int.reduceNeg, Int.reduceEq, String.reduceEq, Int.reduceLT, Int.reduceLE, Int.reduceToNat, Int.reduceAdd, Int.reduceMul, Int.reduceSub]
    exact e.symm
  · exact ⟨Nat.zero_le _, by simp⟩
  rintro k ⟨hk, hn⟩
  simp (config := {maxSteps := 2000000}) only [T_specAllU, Go.Proofs.Tryd.Fld.tb_specUnfold, Go.Proofs.Tryd.Fld.tb_specParse, go_sem, reduceIte, Nat.reduceEqDiff, Nat.reduceAdd, Nat.reduceMul, Nat.reduceDiv, Nat.reduceMod, Nat.reduceSub, Nat.reduceBEq, Nat.reduceLT, Nat.reduceLeDiff, reduceCtorEq, Int.reduceNeg, Int.reduceEq, String.reduceEq, Int.reduceLT, Int.reduceLE, Int.reduceToNat, Int.reduceAdd, Int.reduceMul, Int.reduceSub]
  (try simp (config := {maxSteps := 2000000}) only [gimp, impB, isT, go_sem, reduceIte, Nat.reduceEqDiff, Nat.reduceAdd, Nat.reduceMul, Nat.reduceDiv, Nat.reduceMod, Nat.reduceSub, Nat.reduceBEq, Nat.reduceLT, Nat.reduceLeDiff, reduceCtorEq, Int.reduceNeg, Int.reduceEq, String.reduceEq, Int.reduceLT, Int.reduceLE, Int.reduceToNat, Int.reduceAdd, Int.reduceMul, Int.reduceSub])
  have hmem := fun h : k < (unfS fold l).length => b2 _ (List.mem_of_getElem? (getD_of_lt (s := unfS fold l) (d := []) h))
  have hset := fun h : k < (unfS fold l).length => fldsAt_set (l := unfS fold l) h
  have hlen := fldsAt_len hk
  have hm : (1000000 : Nat) ≤ maxLen := by decide
  have hu : fldsGo (unfS fold l) = 0 → fldsU fold l = (unfS fold l).map pFld := fun g => by rw [fldsU, if_pos (by rw [herr h]; exact g)]
  have hhit := fun (h : k < (unfS fold l).length) h2 => fldsGo_hit h hn h2
  have hnext := fun h : k < (unfS fold l).length => take_all_next h hn
  generalize unfS fold l = w at *
  refine ⟨fun hlt => ⟨by omega, by have := hmem (by omega); omega, ⟨by omega, by omega⟩, ⟨by omega, by omega⟩, fun he => ?_, fun he => ⟨by omega, k + 1, ⟨by omega, ?_⟩, ⟨by omega, hnext (by omega) he⟩, by omega⟩⟩, fun hge => ?_⟩
  · have e := hhit (by omega) he
    exact ⟨by rw [hout (by rw [e]; exact he)]; rfl, e.symm⟩
  · rw [Nat.zero_add, ← hset (by omega), List.map_set]; rfl
  · have : k = w.length := by omega
    subst this
    rw [List.take_length] at hn
    have g := fldsGo_all hn
    rw [List.take_of_length_le (by omega), hu g, fldsAt_all]
    exact ⟨⟨rfl, by simp⟩, g.symm⟩
def tb_specAllU : List Blk → List AV → Option (List Blk × AV × Prop)
  | [], [.int .i64 fold, a1] => some ([], .tuple [enc_flds (fldsU fold (dec_strs a1)), .int .i64 (fldsErr fold (dec_strs a1))], ((dec_strs a1).length ≤ 100) ∧ (∀ x ∈ (dec_strs a1), x.length ≤ 1000) ∧ argOK a1 (enc_strs (dec_strs a1)))
  | _, _ => none
theorem tb_specAllU_ok : ∀ E args E' res p, tb_specAllU E args = some (E', res, p) → p → SpecE Tryd.prog 23 E args E' res := by
  intro E args E' res p h hp
  unfold tb_specAllU at h
  split at h
  · simp only [Option.some.injEq, Prod.mk.injEq] at h
    obtain ⟨rfl, rfl, rfl⟩ := h
    exact SpecE.args (specAllU _ _ hp.1 hp.2.1) (.cons (argOK.refl _) (.cons hp.2.2 .nil))
  · cases h

def T_specAllR : Tbl := fun g E args => (addT (addT nilT 22 Go.Proofs.Tryd.Fld.tb_specUnfoldR) 46 Go.Proofs.Tryd.Fld.tb_specParseR) g E args
theorem T_specAllR_ok : TblOK Tryd.prog T_specAllR := (addT_ok (addT_ok nilT_ok (by decide +kernel) Go.Proofs.Tryd.Fld.tb_specUnfoldR_ok) (by decide +kernel) Go.Proofs.Tryd.Fld.tb_specParseR_ok)
set_option maxRecDepth 100000 in
set_option maxHeartbeats 4000000 in
theorem specAllR (fold : Int) (l : List (List UInt8)) (hl : l.length ≤ 100) (hq : ∀ x ∈ l, x.length ≤ 1000) : SpecE Tryd.prog 24 [] [.int .i64 fold, enc_strs l] [] (.tuple [enc_flds (fldsU fold l), .int .i64 (fldsErr fold l)]) := by
  refine specF0 (C := T_specAllR) (wr := false) (D := fun _ => []) (U := fun _ => none) (res := [enc_flds (fldsU fold l), .int .i64 (fldsErr fold l)]) Tryd.Ty.mixed T_specAllR_ok Tryd.func24 (nA := 2) (by decide +kernel) rfl (fun _ => rfl) ?_
  simp only [Tryd.f24, bodyOf, rlOf]
  rw [W_V]
  simp (config := {maxSteps := 2000000}) only [T_specAllR, Go.Proofs.Tryd.Fld.tb_specUnfoldR, Go.Proofs.Tryd.Fld.tb_specParseR, go_sem, reduceIte, Nat.reduceEqDiff, Nat.reduceAdd, Nat.reduceMul, Nat.reduceDiv, Nat.reduceMod, Nat.reduceSub, Nat.reduceBEq, Nat.reduceLT, Nat.reduceLeDiff, reduceCtorEq, Int.reduceNeg, Int.reduceEq, String.reduceEq, Int.reduceLT, Int.reduceLE, Int.reduceToNat, Int.reduceAdd, Int.reduceMul, Int.reduceSub]
  (try simp (config := {maxSteps := 2000000}) only [gimp, impB, isT, go_sem, reduceIte, Nat.reduceEqDiff, Nat.reduceAdd, Nat.reduceMul, Nat.reduceDiv, Nat.reduceMod, Nat.reduceSub, Nat.reduceBEq, Nat.reduceLT, Nat.reduceLeDiff, reduceCtorEq, Int.reduceNeg, Int.reduceEq, String.reduceEq, Int.reduceLT, Int.reduceLE, Int.reduceToNat, Int.reduceAdd, Int.reduceMul, Int.reduceSub])
  obtain ⟨b1, b2⟩ := unfS_bound (fold := fold) hl hq
  have herr : unfErr fold l = 0 → fldsErr fold l = fldsGo (unfS fold l) := fun h => by rw [fldsErr, if_pos h]
  have hout : fldsErr fold l ≠ 0 → fldsU fold l = [] := fun h => by rw [fldsU, if_neg h]
  have hnone : unfErr fold l ≠ 0 → unfS fold l = [] := fun h => by
    unfold unfErr at h; unfold unfS
    cases e : unfO fold l with
    | none => rfl
    | some o => rw [e] at h; simp at h
  refine ⟨⟨hl, hq⟩, ?_⟩
  refine VL_inv (X := Nat) (fun k => ⟨[(6, enc_strs (unfS fold l)), (7, .int .i64 (unfErr fold l)), (8, .ref 304 0 ((unfS fold l).take k).length ((unfS fold l).take k).length), (9, .int .i64 k)], [(304, .cells 2 false (.agg [.str [], .str []]) ((((unfS fold l).take k).map pFld).map enc_fld))]⟩) (fun k => k ≤ (unfS fold l).length ∧ ∀ x ∈ (unfS fold l).take k, fldErr x = 0) (fun k => (unfS fold l).length - k) 0 ?_ ?_ ?_
  · simp only [List.take_zero, List.map_nil, T_specAllR, Go.Proofs.Tryd.Fld.tb_specUnfoldR, Go.Proofs.Tryd.Fld.tb_specParseR, go_sem, reduceIte, Nat.reduceEqDiff, Nat.reduceAdd, Nat.reduceMul, Nat.reduceDiv, Nat.reduceMod, Nat.reduceSub, Nat.reduceBEq, Nat.reduceLT, Nat.reduceLeDiff, reduceCtorEq, Int.reduceNeg, Int.reduceEq, String.reduceEq, Int.reduceLT, Int.reduceLE, Int.reduceToNat, Int.reduceAdd, Int.reduceMul, Int.reduceSub]
    try rfl
  · exact ⟨Nat.zero_le _, by simp⟩
  rintro k ⟨hk, hn⟩
  simp (config := {maxSteps := 2000000}) only [T_specAllR, Go.Proofs.Tryd.Fld.tb_specUnfoldR, Go.Proofs.Tryd.Fld.tb_specParseR, go_sem, reduceIte, Nat.reduceEqDiff, Nat.reduceAdd, Nat.reduceMul, Nat.reduceDiv, Nat.reduceMod, Nat.reduceSub, Nat.reduceBEq, Nat.reduceLT, Nat.reduceLeDiff, reduceCtorEq, Int.reduceNeg, Int.reduceEq, String.reduceEq, Int.reduceLT, Int.reduceLE, Int.reduceToNat, Int.reduceAdd, Int.reduceMul, Int.reduceSub]
  (try simp (config := {maxSteps := 2000000}) only [gimp, impB, isT, go_sem, reduceIte, Nat.reduceEqDiff, Nat.reduceAdd, Nat.reduceMul, Nat.reduceDiv, Nat.reduceMod, Nat.reduceSub, Nat.reduceBEq, Nat.reduceLT, Nat.reduceLeDiff, reduceCtorEq, Int.reduceNeg, Int.reduceEq, String.reduceEq, Int.reduceLT, Int.reduceLE, Int.reduceToNat, Int.reduceAdd, Int.reduceMul, Int.reduceSub])
  have hmem := fun h : k < (unfS fold l).length => b2 _ (List.mem_of_getElem? (getD_of_lt (s := unfS fold l) (d := []) h))
  have hu : fldsErr fold l = 0 → fldsU fold l = (unfS fold l).map pFld := fun g => by rw [fldsU, if_pos g]
  have hhit := fun (h : k < (unfS fold l).length) h2 => fldsGo_hit h hn h2
  have hnext := fun h : k < (unfS fold l).length => take_all_next h hn
  have hts := fun h : k < (unfS fold l).length => take_succ_getD (s := unfS fold l) [] h
  have hnz : k < (unfS fold l).length → unfErr fold l = 0 := fun h => by
    by_cases g : unfErr fold l = 0
    · exact g
    · rw [hnone g] at h; simp at h
  have hz : unfErr fold l ≠ 0 → fldsErr fold l = unfErr fold l := fun g => by rw [fldsErr, if_neg g]
  generalize unfS fold l = w at *
  have htl : (w.take k).length ≤ 100 := by rw [List.length_take]; omega
  refine ⟨fun hlt => ⟨by omega, by have := hmem (by omega); omega, fun he => ?_, fun he => ⟨by omega, by omega, k + 1, ⟨⟨by rw [List.length_take, List.length_take]; omega, by omega⟩, ?_⟩, ⟨by omega, hnext (by omega) he⟩, by omega⟩⟩, fun hge => ?_⟩
  · have e := hhit (by omega) he
    have e2 := herr (hnz (by omega))
    exact ⟨by rw [hout (by rw [e2, e]; exact he)]; rfl, by rw [e2, e]⟩
  · rw [hts (by omega)]; simp [enc_fld, pFld]
  · have : k = w.length := by omega
    subst this
    rw [List.take_length] at hn
    have g := fldsGo_all hn
    rw [List.take_length, List.take_of_length_le (by simp)]
    by_cases h0 : unfErr fold l = 0
    · have e := herr h0
      rw [g] at e
      exact ⟨by rw [hu e], by rw [h0, e]⟩
    · exact ⟨by rw [hnone h0, hout (by rw [hz h0]; exact h0)]; rfl, (hz h0).symm⟩
def tb_specAllR : List Blk → List AV → Option (List Blk × AV × Prop)
  | [], [.int .i64 fold, a1] => some ([], .tuple [enc_flds (fldsU fold (dec_strs a1)), .int .i64 (fldsErr fold (dec_strs a1))], ((dec_strs a1).length ≤ 100) ∧ (∀ x ∈ (dec_strs a1), x.length ≤ 1000) ∧ argOK a1 (enc_strs (dec_strs a1)))
  | _, _ => none
theorem tb_specAllR_ok : ∀ E args E' res p, tb_specAllR E args = some (E', res, p) → p → SpecE Tryd.prog 24 E args E' res := by
  intro E args E' res p h hp
  unfold tb_specAllR at h
  split at h
  · simp only [Option.some.injEq, Prod.mk.injEq] at h
    obtain ⟨rfl, rfl, rfl⟩ := h
    exact SpecE.args (specAllR _ _ hp.1 hp.2.1) (.cons (argOK.refl _) (.cons hp.2.2 .nil))
  · cases h
end Go.Proofs.Tryd.Fld
