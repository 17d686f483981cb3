/- params: the statements' walks. No condition beyond those that a machine's numbers bring. -/
import Derived.Test.YtanpmebamgnhbaaParR
import Derived.Test.YtanpmebamgnhbaaParL
set_option linter.unusedVariables false
set_option linter.unusedSimpArgs false
namespace Go.Mdl
open Go Go.Abs
def shortP (p : List UInt8 × List UInt8) : Bool := decide (p.1.length ≤ 60) && decide (p.2.length ≤ 60)
def fewP (l : List (List UInt8 × List UInt8)) : Bool := decide (l.length ≤ 20) && l.all shortP
theorem few_len {l : List (List UInt8 × List UInt8)} (h : fewP l = true) : l.length ≤ 1000 ∧ ∀ p ∈ l, p.1.length ≤ 1000000 ∧ p.2.length ≤ 1000000 := by
  simp only [fewP, Bool.and_eq_true, decide_eq_true_eq, List.all_eq_true] at h
  refine ⟨by omega, fun p hp => ?_⟩
  have := h.2 p hp
  simp only [shortP, Bool.and_eq_true, decide_eq_true_eq] at this
  omega
theorem few_text {n : List UInt8} {l : List (List UInt8 × List UInt8)} (hn : n.length ≤ 60) (h : fewP l = true) : (parsText n l).length ≤ 1000000 := by
  simp only [fewP, Bool.and_eq_true, decide_eq_true_eq, List.all_eq_true] at h
  have h1 := textGo_len (n := n) (l := l) (m := 60) (fun p hp => by
    have := h.2 p hp
    simp only [shortP, Bool.and_eq_true, decide_eq_true_eq] at this
    exact this)
  have h2 := Nat.mul_le_mul h.1 (Nat.le_refl (3 * 60 + 4))
  unfold parsText; split
  · omega
  · simp
theorem dec_fld_agg (a b : List UInt8) : dec_fld (.agg [.str a, .str b]) = (a, b) := rfl
end Go.Mdl
namespace Go.Proofs.Try.Par
open Go Go.Abs Go.Proofs Go.Mdl

def T_specSame : Tbl := fun g E args => nilT g E args
theorem T_specSame_ok : TblOK Try.prog T_specSame := nilT_ok
set_option maxRecDepth 100000 in
set_option maxHeartbeats 4000000 in
theorem specSame (a b : List (List UInt8 × List UInt8)) (h : a.length ≤ 2147483647) : SpecE Try.prog 53 [] [enc_flds a, enc_flds b] [] (.bool (decide (a = b))) := by
  refine specF0 (C := T_specSame) (wr := false) (D := fun _ => []) (U := fun _ => none) (res := [.bool (decide (a = b))]) Try.Ty.mixed T_specSame_ok Try.func53 (nA := 2) (by decide +kernel) rfl (fun _ => rfl) ?_
  simp only [Try.f53, bodyOf, rlOf]
  rw [W_V]
  simp (config := {maxSteps := 2000000}) only [T_specSame, go_sem, go_sem, reduceIte, Nat.reduceEqDiff, Nat.reduceAdd, Nat.reduceMul, Nat.reduceSub, Nat.reduceBEq, Nat.reduceLT, Nat.reduceLeDiff, reduceCtorEq, Int.reduceNeg, Int.reduceEq, String.reduceEq, Int.reduceLT, Int.reduceLE, Int.reduceToNat, Int.reduceAdd, Int.reduceMul, Int.reduceSub, Try.Ty.g1, Try.underlying1, Try.underlying2, Try.Ty.s2, Try.Ty.b2, Try.Ty.a2, Try.Ty.z2, Try.underlying3, Try.Ty.s3, Try.Ty.b3, Try.Ty.a3, Try.Ty.z3, Try.underlying4, Try.Ty.s4, Try.Ty.b4, Try.Ty.a4, Try.Ty.z4, Try.underlying9, Try.Ty.s9, Try.Ty.b9, Try.Ty.a9, Try.Ty.z9, Try.Ty.g40, Try.underlying40, Try.Ty.s40, Try.Ty.b40, Try.Ty.a40, Try.Ty.z40, Try.Ty.g43, Try.underlying43, Try.underlying49, Try.Ty.s49, Try.Ty.b49, Try.Ty.a49, Try.Ty.g49, Try.Ty.h49, Try.Ty.z49]
  (try simp (config := {maxSteps := 2000000}) only [gimp, impB, isT, go_sem, reduceIte, Nat.reduceEqDiff, Nat.reduceAdd, Nat.reduceMul, Nat.reduceSub, Nat.reduceBEq, Nat.reduceLT, Nat.reduceLeDiff, reduceCtorEq, Int.reduceNeg, Int.reduceEq, String.reduceEq, Int.reduceLT, Int.reduceLE, Int.reduceToNat, Int.reduceAdd, Int.reduceMul, Int.reduceSub])
  refine ⟨fun hne => ?_, fun heq => ?_⟩
  · symm; rw [decide_eq_false_iff_not]; rintro rfl; exact hne rfl
  have hl : a.length = b.length := by omega
  refine VL_inv (X := Nat) (fun x => ⟨[(0, enc_flds a), (1, enc_flds b), (5, .int .i64 x)], []⟩) (fun x => x ≤ a.length ∧ a.take x = b.take x) (fun x => a.length - x) 0 ?_ ?_ ?_
  · simp only [go_sem, go_sem, reduceIte, Nat.reduceEqDiff, Nat.reduceAdd, Nat.reduceMul, Nat.reduceSub, Nat.reduceBEq, Nat.reduceLT, Nat.reduceLeDiff, reduceCtorEq, Int.reduceNeg, Int.reduceEq, String.reduceEq, Int.reduceLT, Int.reduceLE, Int.reduceToNat, Int.reduceAdd, Int.reduceMul, Int.reduceSub]
    try rfl
  · exact ⟨Nat.zero_le _, by simp⟩
  rintro x ⟨hx, hn⟩
  simp (config := {maxSteps := 2000000}) only [T_specSame, go_sem, go_sem, reduceIte, Nat.reduceEqDiff, Nat.reduceAdd, Nat.reduceMul, Nat.reduceSub, Nat.reduceBEq, Nat.reduceLT, Nat.reduceLeDiff, reduceCtorEq, Int.reduceNeg, Int.reduceEq, String.reduceEq, Int.reduceLT, Int.reduceLE, Int.reduceToNat, Int.reduceAdd, Int.reduceMul, Int.reduceSub, Try.Ty.g1, Try.underlying1, Try.underlying2, Try.Ty.s2, Try.Ty.b2, Try.Ty.a2, Try.Ty.z2, Try.underlying3, Try.Ty.s3, Try.Ty.b3, Try.Ty.a3, Try.Ty.z3, Try.underlying4, Try.Ty.s4, Try.Ty.b4, Try.Ty.a4, Try.Ty.z4, Try.underlying9, Try.Ty.s9, Try.Ty.b9, Try.Ty.a9, Try.Ty.z9, Try.Ty.g40, Try.underlying40, Try.Ty.s40, Try.Ty.b40, Try.Ty.a40, Try.Ty.z40, Try.Ty.g43, Try.underlying43, Try.underlying49, Try.Ty.s49, Try.Ty.b49, Try.Ty.a49, Try.Ty.g49, Try.Ty.h49, Try.Ty.z49]
  (try simp (config := {maxSteps := 2000000}) only [gimp, impB, isT, go_sem, reduceIte, Nat.reduceEqDiff, Nat.reduceAdd, Nat.reduceMul, Nat.reduceSub, Nat.reduceBEq, Nat.reduceLT, Nat.reduceLeDiff, reduceCtorEq, Int.reduceNeg, Int.reduceEq, String.reduceEq, Int.reduceLT, Int.reduceLE, Int.reduceToNat, Int.reduceAdd, Int.reduceMul, Int.reduceSub])
  refine ⟨fun hlt => ?_, fun hge => ?_⟩
  · obtain ⟨h1, h2⟩ := same_step (a := a) (b := b) (x := x) ([], []) hl (by omega) hn
    refine ⟨by omega, by omega, fun he => ?_, fun e1 e2 => ⟨by omega, x + 1, by omega, ⟨by omega, h1 (Prod.ext e1 e2)⟩, by omega⟩⟩
    have : a ≠ b := h2 (fun e => by rw [e] at he; simp at he)
    simp [this]
  · have : x = a.length := by omega
    subst this
    rw [List.take_length, hl, List.take_length] at hn
    simp [hn]
def tb_specSame : List Blk → List AV → Option (List Blk × AV × Prop)
  | [], [a0, a1] => some ([], .bool (decide ((dec_flds a0) = (dec_flds a1))), ((dec_flds a0).length ≤ 2147483647) ∧ argOK a0 (enc_flds (dec_flds a0)) ∧ argOK a1 (enc_flds (dec_flds a1)))
  | _, _ => none
theorem tb_specSame_ok : ∀ E args E' res p, tb_specSame E args = some (E', res, p) → p → SpecE Try.prog 53 E args E' res := by
  intro E args E' res p h hp
  unfold tb_specSame at h
  split at h
  · simp only [Option.some.injEq, Prod.mk.injEq] at h
    obtain ⟨rfl, rfl, rfl⟩ := h
    exact SpecE.args (specSame _ _ hp.1) (.cons hp.2.1 (.cons hp.2.2 .nil))
  · cases h

def T_specLives : Tbl := fun g E args => (addT (addT (addT nilT 51 Go.Proofs.Try.Par.tb_specParse) 56 Go.Proofs.Try.Par.tb_specPrint) 53 Go.Proofs.Try.Par.tb_specSame) g E args
theorem T_specLives_ok : TblOK Try.prog T_specLives := (addT_ok (addT_ok (addT_ok nilT_ok (by decide +kernel) Go.Proofs.Try.Par.tb_specParse_ok) (by decide +kernel) Go.Proofs.Try.Par.tb_specPrint_ok) (by decide +kernel) Go.Proofs.Try.Par.tb_specSame_ok)
set_option maxRecDepth 100000 in
set_option maxHeartbeats 4000000 in
theorem specLives : SpecE Try.prog 54 [] [] [] (.bool true) := by
  refine specF0 (C := T_specLives) (wr := false) (D := fun _ => []) (U := fun _ => none) (res := [.bool true]) Try.Ty.mixed T_specLives_ok Try.func54 (nA := 0) (by decide +kernel) rfl (fun _ => rfl) ?_
  simp only [Try.f54, bodyOf, rlOf]
  rw [W_V]
  simp (config := {maxSteps := 2000000}) only [T_specLives, Go.Proofs.Try.Par.tb_specParse, Go.Proofs.Try.Par.tb_specPrint, Go.Proofs.Try.Par.tb_specSame, go_sem, go_sem, reduceIte, Nat.reduceEqDiff, Nat.reduceAdd, Nat.reduceMul, Nat.reduceSub, Nat.reduceBEq, Nat.reduceLT, Nat.reduceLeDiff, reduceCtorEq, Int.reduceNeg, Int.reduceEq, String.reduceEq, Int.reduceLT, Int.reduceLE, Int.reduceToNat, Int.reduceAdd, Int.reduceMul, Int.reduceSub, Try.Ty.g1, Try.underlying1, Try.underlying2, Try.Ty.s2, Try.Ty.b2, Try.Ty.a2, Try.Ty.z2, Try.underlying3, Try.Ty.s3, Try.Ty.b3, Try.Ty.a3, Try.Ty.z3, Try.underlying4, Try.Ty.s4, Try.Ty.b4, Try.Ty.a4, Try.Ty.z4, Try.underlying5, Try.Ty.s5, Try.Ty.b5, Try.Ty.a5, Try.Ty.z5, Try.underlying6, Try.Ty.s6, Try.Ty.b6, Try.Ty.a6, Try.Ty.z6, Try.underlying9, Try.Ty.s9, Try.Ty.b9, Try.Ty.a9, Try.Ty.z9, Try.underlying12, Try.Ty.s12, Try.Ty.b12, Try.Ty.a12, Try.Ty.z12, Try.underlying13, Try.Ty.s13, Try.Ty.b13, Try.Ty.a13, Try.Ty.z13, Try.underlying14, Try.Ty.s14, Try.Ty.b14, Try.Ty.a14, Try.Ty.z14, Try.Ty.g15, Try.underlying15, Try.Ty.s15, Try.Ty.b15, Try.Ty.a15, Try.Ty.z15, Try.Ty.g16, Try.underlying16, Try.Ty.s16, Try.Ty.b16, Try.Ty.a16, Try.Ty.z16, Try.Ty.g17, Try.underlying17, Try.Ty.s17, Try.Ty.b17, Try.Ty.a17, Try.Ty.z17, Try.Ty.g27, Try.underlying27, Try.underlying32, Try.Ty.s32, Try.Ty.b32, Try.Ty.a32, Try.Ty.z32, Try.Ty.g40, Try.underlying40, Try.Ty.s40, Try.Ty.b40, Try.Ty.a40, Try.Ty.z40, Try.Ty.g42, Try.underlying42, Try.Ty.g43, Try.underlying43, Try.Ty.g45, Try.underlying45, Try.underlying49, Try.Ty.s49, Try.Ty.b49, Try.Ty.a49, Try.Ty.g49, Try.Ty.h49, Try.Ty.z49, Try.Ty.g53, Try.underlying53, Try.Ty.g56, Try.underlying56, Try.Ty.g244, Try.underlying244, Try.Ty.s244, Try.Ty.b244, Try.Ty.a244, Try.Ty.z244, Try.underlying256, Try.Ty.s256, Try.Ty.b256, Try.Ty.a256, Try.Ty.z256, Try.underlying268, Try.Ty.s268, Try.Ty.b268, Try.Ty.a268, Try.Ty.z268, Try.underlying269, Try.Ty.s269, Try.Ty.b269, Try.Ty.a269, Try.Ty.z269, Try.underlying271, Try.Ty.s271, Try.Ty.b271, Try.Ty.a271, Try.Ty.z271, Try.underlying272, Try.Ty.s272, Try.Ty.b272, Try.Ty.a272, Try.Ty.z272, Try.underlying273, Try.Ty.s273, Try.Ty.b273, Try.Ty.a273, Try.Ty.z273, Try.Ty.g274, Try.underlying274, Try.underlying275, Try.Ty.s275, Try.Ty.b275, Try.Ty.a275, Try.Ty.z275, Try.underlying276, Try.Ty.s276, Try.Ty.b276, Try.Ty.a276, Try.Ty.z276, Try.underlying278, Try.Ty.s278, Try.Ty.b278, Try.Ty.a278, Try.Ty.z278, dec_fld_agg]
  (try simp (config := {maxSteps := 2000000}) only [gimp, impB, isT, go_sem, reduceIte, Nat.reduceEqDiff, Nat.reduceAdd, Nat.reduceMul, Nat.reduceSub, Nat.reduceBEq, Nat.reduceLT, Nat.reduceLeDiff, reduceCtorEq, Int.reduceNeg, Int.reduceEq, String.reduceEq, Int.reduceLT, Int.reduceLE, Int.reduceToNat, Int.reduceAdd, Int.reduceMul, Int.reduceSub])
  have g1 : parsGo [59, 120] = some [([120], [])] := by
    rw [parsGo_step (by decide) (by decide +kernel), show parLeft [59, 120] = [] by decide +kernel, parsGo_nil]; decide +kernel
  have g2 : parsGo [32, 59, 32, 81, 61, 34, 97, 32, 98, 34, 59, 120] = some [([113], [97, 32, 98]), ([120], [])] := by
    rw [parsGo_step (by decide) (by decide +kernel), show parLeft [32, 59, 32, 81, 61, 34, 97, 32, 98, 34, 59, 120] = [59, 120] by decide +kernel, g1]; decide +kernel
  have g3 : restP [71, 90, 73, 80, 32, 59, 32, 81, 61, 34, 97, 32, 98, 34, 59, 120] = [32, 59, 32, 81, 61, 34, 97, 32, 98, 34, 59, 120] := by decide +kernel
  have g4 : parsOk [71, 90, 73, 80, 32, 59, 32, 81, 61, 34, 97, 32, 98, 34, 59, 120] = true := by
    unfold parsOk; rw [g3, g2]; decide +kernel
  have e1 : parsName [71, 90, 73, 80, 32, 59, 32, 81, 61, 34, 97, 32, 98, 34, 59, 120] = [103, 122, 105, 112] := by
    unfold parsName; rw [if_pos g4]; decide +kernel
  have e2 : parsErr [71, 90, 73, 80, 32, 59, 32, 81, 61, 34, 97, 32, 98, 34, 59, 120] = 0 := by
    unfold parsErr; rw [if_neg (by decide), if_pos g4]
  have e3 : parsList [71, 90, 73, 80, 32, 59, 32, 81, 61, 34, 97, 32, 98, 34, 59, 120] = [([113], [97, 32, 98]), ([120], [])] := by
    unfold parsList; rw [if_pos g4, g3, g2]; rfl
  have e4 : parsText [97] [([98], [99, 32, 100])] = [97, 59, 98, 61, 34, 99, 32, 100, 34] := by decide +kernel
  have e5 : parsMay [97] [([98], [99, 32, 100])] = true := by decide +kernel
  simp [e1, e2, e3, e4, e5]
def tb_specLives : List Blk → List AV → Option (List Blk × AV × Prop)
  | [], [] => some ([], .bool true, True)
  | _, _ => none
theorem tb_specLives_ok : ∀ E args E' res p, tb_specLives E args = some (E', res, p) → p → SpecE Try.prog 54 E args E' res := by
  intro E args E' res p h hp
  unfold tb_specLives at h
  split at h
  · simp only [Option.some.injEq, Prod.mk.injEq] at h
    obtain ⟨rfl, rfl, rfl⟩ := h
    exact specLives
  · cases h

def T_specFew : Tbl := fun g E args => nilT g E args
theorem T_specFew_ok : TblOK Try.prog T_specFew := nilT_ok
set_option maxRecDepth 100000 in
set_option maxHeartbeats 4000000 in
theorem specFew (l : List (List UInt8 × List UInt8)) (h : l.length ≤ maxLen) : SpecE Try.prog 55 [] [enc_flds l] [] (.bool (fewP l)) := by
  refine specF0 (C := T_specFew) (wr := false) (D := fun _ => []) (U := fun _ => none) (res := [.bool (fewP l)]) Try.Ty.mixed T_specFew_ok Try.func55 (nA := 1) (by decide +kernel) rfl (fun _ => rfl) ?_
  simp only [Try.f55, bodyOf, rlOf]
  rw [W_V]
  simp (config := {maxSteps := 2000000}) only [T_specFew, go_sem, go_sem, reduceIte, Nat.reduceEqDiff, Nat.reduceAdd, Nat.reduceMul, Nat.reduceSub, Nat.reduceBEq, Nat.reduceLT, Nat.reduceLeDiff, reduceCtorEq, Int.reduceNeg, Int.reduceEq, String.reduceEq, Int.reduceLT, Int.reduceLE, Int.reduceToNat, Int.reduceAdd, Int.reduceMul, Int.reduceSub, Try.Ty.g1, Try.underlying1, Try.underlying2, Try.Ty.s2, Try.Ty.b2, Try.Ty.a2, Try.Ty.z2, Try.underlying3, Try.Ty.s3, Try.Ty.b3, Try.Ty.a3, Try.Ty.z3, Try.underlying4, Try.Ty.s4, Try.Ty.b4, Try.Ty.a4, Try.Ty.z4, Try.underlying9, Try.Ty.s9, Try.Ty.b9, Try.Ty.a9, Try.Ty.z9, Try.underlying20, Try.Ty.s20, Try.Ty.b20, Try.Ty.a20, Try.Ty.z20, Try.Ty.g29, Try.underlying29, Try.Ty.g40, Try.underlying40, Try.Ty.s40, Try.Ty.b40, Try.Ty.a40, Try.Ty.z40, Try.Ty.g44, Try.underlying44, Try.underlying49, Try.Ty.s49, Try.Ty.b49, Try.Ty.a49, Try.Ty.g49, Try.Ty.h49, Try.Ty.z49, Try.Ty.g60, Try.underlying60, Try.Ty.s60, Try.Ty.b60, Try.Ty.a60, Try.Ty.z60, Try.underlying73, Try.Ty.s73, Try.Ty.b73, Try.Ty.a73, Try.Ty.g73, Try.Ty.h73, Try.Ty.z73]
  (try simp (config := {maxSteps := 2000000}) only [gimp, impB, isT, go_sem, reduceIte, Nat.reduceEqDiff, Nat.reduceAdd, Nat.reduceMul, Nat.reduceSub, Nat.reduceBEq, Nat.reduceLT, Nat.reduceLeDiff, reduceCtorEq, Int.reduceNeg, Int.reduceEq, String.reduceEq, Int.reduceLT, Int.reduceLE, Int.reduceToNat, Int.reduceAdd, Int.reduceMul, Int.reduceSub])
  refine ⟨fun h => by simp [fewP]; omega, fun h20 => ?_⟩
  refine VL_inv (X := Nat) (fun k => ⟨[(8, enc_flds l), (9, .int .i64 l.length), (10, .int .i64 k)], []⟩) (fun k => k ≤ l.length ∧ (l.take k).all shortP = true) (fun k => l.length - k) 0 ?_ ?_ ?_
  · simp only [go_sem, go_sem, reduceIte, Nat.reduceEqDiff, Nat.reduceAdd, Nat.reduceMul, Nat.reduceSub, Nat.reduceBEq, Nat.reduceLT, Nat.reduceLeDiff, reduceCtorEq, Int.reduceNeg, Int.reduceEq, String.reduceEq, Int.reduceLT, Int.reduceLE, Int.reduceToNat, Int.reduceAdd, Int.reduceMul, Int.reduceSub]
    try rfl
  · exact ⟨Nat.zero_le _, by simp⟩
  rintro k ⟨hk, hn⟩
  simp (config := {maxSteps := 2000000}) only [T_specFew, go_sem, go_sem, reduceIte, Nat.reduceEqDiff, Nat.reduceAdd, Nat.reduceMul, Nat.reduceSub, Nat.reduceBEq, Nat.reduceLT, Nat.reduceLeDiff, reduceCtorEq, Int.reduceNeg, Int.reduceEq, String.reduceEq, Int.reduceLT, Int.reduceLE, Int.reduceToNat, Int.reduceAdd, Int.reduceMul, Int.reduceSub, Try.Ty.g1, Try.underlying1, Try.underlying2, Try.Ty.s2, Try.Ty.b2, Try.Ty.a2, Try.Ty.z2, Try.underlying3, Try.Ty.s3, Try.Ty.b3, Try.Ty.a3, Try.Ty.z3, Try.underlying4, Try.Ty.s4, Try.Ty.b4, Try.Ty.a4, Try.Ty.z4, Try.underlying9, Try.Ty.s9, Try.Ty.b9, Try.Ty.a9, Try.Ty.z9, Try.underlying20, Try.Ty.s20, Try.Ty.b20, Try.Ty.a20, Try.Ty.z20, Try.Ty.g29, Try.underlying29, Try.Ty.g40, Try.underlying40, Try.Ty.s40, Try.Ty.b40, Try.Ty.a40, Try.Ty.z40, Try.Ty.g44, Try.underlying44, Try.underlying49, Try.Ty.s49, Try.Ty.b49, Try.Ty.a49, Try.Ty.g49, Try.Ty.h49, Try.Ty.z49, Try.Ty.g60, Try.underlying60, Try.Ty.s60, Try.Ty.b60, Try.Ty.a60, Try.Ty.z60, Try.underlying73, Try.Ty.s73, Try.Ty.b73, Try.Ty.a73, Try.Ty.g73, Try.Ty.h73, Try.Ty.z73]
  (try simp (config := {maxSteps := 2000000}) only [gimp, impB, isT, go_sem, reduceIte, Nat.reduceEqDiff, Nat.reduceAdd, Nat.reduceMul, Nat.reduceSub, Nat.reduceBEq, Nat.reduceLT, Nat.reduceLeDiff, reduceCtorEq, Int.reduceNeg, Int.reduceEq, String.reduceEq, Int.reduceLT, Int.reduceLE, Int.reduceToNat, Int.reduceAdd, Int.reduceMul, Int.reduceSub])
  have hmem : k < l.length → l.getD k ([], []) ∈ l := fun h => List.mem_of_getElem? (getD_of_lt (s := l) (d := ([], [])) h)
  (repeat' (first | refine And.intro ?_ ?_ | intro _))
  all_goals (try first | omega | assumption | contradiction)
  · rename_i h1 h2
    have hs : shortP (l.getD k ([], [])) = false := by
      simp only [shortP, Bool.and_eq_false_iff, decide_eq_false_iff_not]; omega
    have : l.all shortP = false := List.all_eq_false.2 ⟨_, hmem (by omega), by rw [hs]; simp⟩
    simp [fewP, this]
  · rename_i h1 h2 h3
    refine ⟨k + 1, by omega, ⟨by omega, ?_⟩, by omega⟩
    rw [take_succ_getD ([], []) (by omega), List.all_append, hn]
    simp only [List.all_cons, List.all_nil, Bool.and_true, Bool.true_and, shortP, Bool.and_eq_true, decide_eq_true_eq]
    omega
  · have : k = l.length := by omega
    subst this
    rw [List.take_length] at hn
    simp [fewP, hn]; omega
def tb_specFew : List Blk → List AV → Option (List Blk × AV × Prop)
  | [], [a0] => some ([], .bool (fewP (dec_flds a0)), ((dec_flds a0).length ≤ maxLen) ∧ argOK a0 (enc_flds (dec_flds a0)))
  | _, _ => none
theorem tb_specFew_ok : ∀ E args E' res p, tb_specFew E args = some (E', res, p) → p → SpecE Try.prog 55 E args E' res := by
  intro E args E' res p h hp
  unfold tb_specFew at h
  split at h
  · simp only [Option.some.injEq, Prod.mk.injEq] at h
    obtain ⟨rfl, rfl, rfl⟩ := h
    exact SpecE.args (specFew _ hp.1) (.cons hp.2 .nil)
  · cases h

def T_specLawParse : Tbl := fun g E args => (addT (addT (addT (addT nilT 51 Go.Proofs.Try.Par.tb_specParse) 52 Go.Proofs.Try.Par.tb_specParseR) 53 Go.Proofs.Try.Par.tb_specSame) 54 Go.Proofs.Try.Par.tb_specLives) g E args
theorem T_specLawParse_ok : TblOK Try.prog T_specLawParse := (addT_ok (addT_ok (addT_ok (addT_ok nilT_ok (by decide +kernel) Go.Proofs.Try.Par.tb_specParse_ok) (by decide +kernel) Go.Proofs.Try.Par.tb_specParseR_ok) (by decide +kernel) Go.Proofs.Try.Par.tb_specSame_ok) (by decide +kernel) Go.Proofs.Try.Par.tb_specLives_ok)
set_option maxRecDepth 100000 in
set_option maxHeartbeats 4000000 in
theorem specLawParse (s : List UInt8) (hs : s.length ≤ maxLen) : SpecE Try.prog 9 [] [.str s] [] (.bool true) := by
  refine specF0 (C := T_specLawParse) (wr := false) (D := fun _ => []) (U := fun _ => none) (res := [.bool true]) Try.Ty.mixed T_specLawParse_ok Try.func9 (nA := 1) (by decide +kernel) rfl (fun _ => rfl) ?_
  simp only [Try.f9, bodyOf, rlOf]
  rw [W_V]
  simp (config := {maxSteps := 2000000}) only [T_specLawParse, Go.Proofs.Try.Par.tb_specParse, Go.Proofs.Try.Par.tb_specParseR, Go.Proofs.Try.Par.tb_specSame, Go.Proofs.Try.Par.tb_specLives, go_sem, go_sem, reduceIte, Nat.reduceEqDiff, Nat.reduceAdd, Nat.reduceMul, Nat.reduceSub, Nat.reduceBEq, Nat.reduceLT, Nat.reduceLeDiff, reduceCtorEq, Int.reduceNeg, Int.reduceEq, String.reduceEq, Int.reduceLT, Int.reduceLE, Int.reduceToNat, Int.reduceAdd, Int.reduceMul, Int.reduceSub, Try.Ty.g1, Try.underlying1, Try.underlying2, Try.Ty.s2, Try.Ty.b2, Try.Ty.a2, Try.Ty.z2, Try.underlying3, Try.Ty.s3, Try.Ty.b3, Try.Ty.a3, Try.Ty.z3, Try.underlying4, Try.Ty.s4, Try.Ty.b4, Try.Ty.a4, Try.Ty.z4, Try.underlying5, Try.Ty.s5, Try.Ty.b5, Try.Ty.a5, Try.Ty.z5, Try.underlying6, Try.Ty.s6, Try.Ty.b6, Try.Ty.a6, Try.Ty.z6, Try.underlying7, Try.Ty.s7, Try.Ty.b7, Try.Ty.a7, Try.Ty.g7, Try.Ty.h7, Try.Ty.z7, Try.underlying8, Try.Ty.s8, Try.Ty.b8, Try.Ty.a8, Try.Ty.g8, Try.Ty.h8, Try.Ty.z8, Try.underlying9, Try.Ty.s9, Try.Ty.b9, Try.Ty.a9, Try.Ty.z9, Try.Ty.g27, Try.underlying27, Try.Ty.g31, Try.underlying31, Try.underlying32, Try.Ty.s32, Try.Ty.b32, Try.Ty.a32, Try.Ty.z32, Try.Ty.g34, Try.underlying34, Try.Ty.g36, Try.underlying36, Try.Ty.g37, Try.underlying37, Try.Ty.g40, Try.underlying40, Try.Ty.s40, Try.Ty.b40, Try.Ty.a40, Try.Ty.z40, Try.Ty.g42, Try.underlying42, Try.Ty.g43, Try.underlying43, Try.underlying49, Try.Ty.s49, Try.Ty.b49, Try.Ty.a49, Try.Ty.g49, Try.Ty.h49, Try.Ty.z49, Try.Ty.g52, Try.underlying52, Try.Ty.g53, Try.underlying53, Try.Ty.g54, Try.underlying54]
  (try simp (config := {maxSteps := 2000000}) only [gimp, impB, isT, go_sem, reduceIte, Nat.reduceEqDiff, Nat.reduceAdd, Nat.reduceMul, Nat.reduceSub, Nat.reduceBEq, Nat.reduceLT, Nat.reduceLeDiff, reduceCtorEq, Int.reduceNeg, Int.reduceEq, String.reduceEq, Int.reduceLT, Int.reduceLE, Int.reduceToNat, Int.reduceAdd, Int.reduceMul, Int.reduceSub])
  have h1 : (s.take 1000).length ≤ 1000 := by rw [List.length_take]; omega
  have h2 := pars_len (s.take 1000)
  exact ⟨by omega, by omega, by omega⟩
def tb_specLawParse : List Blk → List AV → Option (List Blk × AV × Prop)
  | [], [.str s] => some ([], .bool true, (s.length ≤ maxLen))
  | _, _ => none
theorem tb_specLawParse_ok : ∀ E args E' res p, tb_specLawParse E args = some (E', res, p) → p → SpecE Try.prog 9 E args E' res := by
  intro E args E' res p h hp
  unfold tb_specLawParse at h
  split at h
  · simp only [Option.some.injEq, Prod.mk.injEq] at h
    obtain ⟨rfl, rfl, rfl⟩ := h
    exact (specLawParse _ hp)
  · cases h

def T_specLawPrint : Tbl := fun g E args => (addT (addT (addT (addT nilT 55 Go.Proofs.Try.Par.tb_specFew) 56 Go.Proofs.Try.Par.tb_specPrint) 57 Go.Proofs.Try.Par.tb_specPrintR) 54 Go.Proofs.Try.Par.tb_specLives) g E args
theorem T_specLawPrint_ok : TblOK Try.prog T_specLawPrint := (addT_ok (addT_ok (addT_ok (addT_ok nilT_ok (by decide +kernel) Go.Proofs.Try.Par.tb_specFew_ok) (by decide +kernel) Go.Proofs.Try.Par.tb_specPrint_ok) (by decide +kernel) Go.Proofs.Try.Par.tb_specPrintR_ok) (by decide +kernel) Go.Proofs.Try.Par.tb_specLives_ok)
set_option maxRecDepth 100000 in
set_option maxHeartbeats 4000000 in
theorem specLawPrint (n : List UInt8) (l : List (List UInt8 × List UInt8)) (hn : n.length ≤ maxLen) (hl : l.length ≤ maxLen) : SpecE Try.prog 10 [] [.str n, enc_flds l] [] (.bool true) := by
  refine specF0 (C := T_specLawPrint) (wr := false) (D := fun _ => []) (U := fun _ => none) (res := [.bool true]) Try.Ty.mixed T_specLawPrint_ok Try.func10 (nA := 2) (by decide +kernel) rfl (fun _ => rfl) ?_
  simp only [Try.f10, bodyOf, rlOf]
  rw [W_V]
  simp (config := {maxSteps := 2000000}) only [T_specLawPrint, Go.Proofs.Try.Par.tb_specFew, Go.Proofs.Try.Par.tb_specPrint, Go.Proofs.Try.Par.tb_specPrintR, Go.Proofs.Try.Par.tb_specLives, go_sem, go_sem, reduceIte, Nat.reduceEqDiff, Nat.reduceAdd, Nat.reduceMul, Nat.reduceSub, Nat.reduceBEq, Nat.reduceLT, Nat.reduceLeDiff, reduceCtorEq, Int.reduceNeg, Int.reduceEq, String.reduceEq, Int.reduceLT, Int.reduceLE, Int.reduceToNat, Int.reduceAdd, Int.reduceMul, Int.reduceSub, Try.Ty.g1, Try.underlying1, Try.underlying2, Try.Ty.s2, Try.Ty.b2, Try.Ty.a2, Try.Ty.z2, Try.underlying3, Try.Ty.s3, Try.Ty.b3, Try.Ty.a3, Try.Ty.z3, Try.underlying4, Try.Ty.s4, Try.Ty.b4, Try.Ty.a4, Try.Ty.z4, Try.underlying5, Try.Ty.s5, Try.Ty.b5, Try.Ty.a5, Try.Ty.z5, Try.underlying6, Try.Ty.s6, Try.Ty.b6, Try.Ty.a6, Try.Ty.z6, Try.underlying7, Try.Ty.s7, Try.Ty.b7, Try.Ty.a7, Try.Ty.g7, Try.Ty.h7, Try.Ty.z7, Try.underlying9, Try.Ty.s9, Try.Ty.b9, Try.Ty.a9, Try.Ty.z9, Try.Ty.g27, Try.underlying27, Try.Ty.g40, Try.underlying40, Try.Ty.s40, Try.Ty.b40, Try.Ty.a40, Try.Ty.z40, Try.Ty.g42, Try.underlying42, Try.Ty.g43, Try.underlying43, Try.Ty.g44, Try.underlying44, Try.Ty.g45, Try.underlying45, Try.Ty.g46, Try.underlying46, Try.Ty.g47, Try.underlying47, Try.underlying48, Try.Ty.s48, Try.Ty.b48, Try.Ty.a48, Try.Ty.g48, Try.Ty.h48, Try.Ty.z48, Try.underlying49, Try.Ty.s49, Try.Ty.b49, Try.Ty.a49, Try.Ty.g49, Try.Ty.h49, Try.Ty.z49, Try.Ty.g54, Try.underlying54, Try.Ty.g55, Try.underlying55, Try.Ty.g56, Try.underlying56, Try.Ty.g57, Try.underlying57, Try.Ty.s57, Try.Ty.b57, Try.Ty.a57, Try.Ty.z57, Try.Ty.g60, Try.underlying60, Try.Ty.s60, Try.Ty.b60, Try.Ty.a60, Try.Ty.z60, Try.underlying73, Try.Ty.s73, Try.Ty.b73, Try.Ty.a73, Try.Ty.g73, Try.Ty.h73, Try.Ty.z73]
  (try simp (config := {maxSteps := 2000000}) only [gimp, impB, isT, go_sem, reduceIte, Nat.reduceEqDiff, Nat.reduceAdd, Nat.reduceMul, Nat.reduceSub, Nat.reduceBEq, Nat.reduceLT, Nat.reduceLeDiff, reduceCtorEq, Int.reduceNeg, Int.reduceEq, String.reduceEq, Int.reduceLT, Int.reduceLE, Int.reduceToNat, Int.reduceAdd, Int.reduceMul, Int.reduceSub])
  have h1 : (n.take 60).length ≤ 60 := by rw [List.length_take]; omega
  refine ⟨hl, fun hf => ⟨by omega, (few_len hf).1, (few_len hf).2⟩⟩
def tb_specLawPrint : List Blk → List AV → Option (List Blk × AV × Prop)
  | [], [.str n, a1] => some ([], .bool true, (n.length ≤ maxLen) ∧ ((dec_flds a1).length ≤ maxLen) ∧ argOK a1 (enc_flds (dec_flds a1)))
  | _, _ => none
theorem tb_specLawPrint_ok : ∀ E args E' res p, tb_specLawPrint E args = some (E', res, p) → p → SpecE Try.prog 10 E args E' res := by
  intro E args E' res p h hp
  unfold tb_specLawPrint at h
  split at h
  · simp only [Option.some.injEq, Prod.mk.injEq] at h
    obtain ⟨rfl, rfl, rfl⟩ := h
    exact SpecE.args (specLawPrint _ _ hp.1 hp.2.1) (.cons (argOK.refl _) (.cons hp.2.2 .nil))
  · cases h

def T_specLawBack : Tbl := fun g E args => (addT (addT (addT (addT (addT (addT nilT 55 Go.Proofs.Try.Par.tb_specFew) 56 Go.Proofs.Try.Par.tb_specPrint) 51 Go.Proofs.Try.Par.tb_specParse) 53 Go.Proofs.Try.Par.tb_specSame) 50 Go.Proofs.Try.Oct.tb_specLowerR) 54 Go.Proofs.Try.Par.tb_specLives) g E args
theorem T_specLawBack_ok : TblOK Try.prog T_specLawBack := (addT_ok (addT_ok (addT_ok (addT_ok (addT_ok (addT_ok nilT_ok (by decide +kernel) Go.Proofs.Try.Par.tb_specFew_ok) (by decide +kernel) Go.Proofs.Try.Par.tb_specPrint_ok) (by decide +kernel) Go.Proofs.Try.Par.tb_specParse_ok) (by decide +kernel) Go.Proofs.Try.Par.tb_specSame_ok) (by decide +kernel) Go.Proofs.Try.Oct.tb_specLowerR_ok) (by decide +kernel) Go.Proofs.Try.Par.tb_specLives_ok)
set_option maxRecDepth 100000 in
set_option maxHeartbeats 4000000 in
theorem specLawBack (n : List UInt8) (l : List (List UInt8 × List UInt8)) (s : List UInt8) (hn : n.length ≤ maxLen) (hl : l.length ≤ maxLen) (hs : s.length ≤ maxLen) : SpecE Try.prog 11 [] [.str n, enc_flds l, .str s] [] (.bool true) := by
  refine specF0 (C := T_specLawBack) (wr := false) (D := fun _ => []) (U := fun i => if i = 15 then some ⟨Unit, fun _ => ⟨[(2, .str (s.take 1000))], []⟩, fun _ => True⟩ else none) (res := [.bool true]) Try.Ty.mixed T_specLawBack_ok Try.func11 (nA := 3) (by decide +kernel) rfl (fun _ => rfl) ?_
  simp only [Try.f11, bodyOf, rlOf]
  rw [W_V]
  simp (config := {maxSteps := 2000000}) only [T_specLawBack, Go.Proofs.Try.Par.tb_specFew, Go.Proofs.Try.Par.tb_specPrint, Go.Proofs.Try.Par.tb_specParse, Go.Proofs.Try.Par.tb_specSame, Go.Proofs.Try.Oct.tb_specLowerR, Go.Proofs.Try.Par.tb_specLives, go_sem, go_sem, reduceIte, Nat.reduceEqDiff, Nat.reduceAdd, Nat.reduceMul, Nat.reduceSub, Nat.reduceBEq, Nat.reduceLT, Nat.reduceLeDiff, reduceCtorEq, Int.reduceNeg, Int.reduceEq, String.reduceEq, Int.reduceLT, Int.reduceLE, Int.reduceToNat, Int.reduceAdd, Int.reduceMul, Int.reduceSub, Try.Ty.g1, Try.underlying1, Try.underlying2, Try.Ty.s2, Try.Ty.b2, Try.Ty.a2, Try.Ty.z2, Try.underlying3, Try.Ty.s3, Try.Ty.b3, Try.Ty.a3, Try.Ty.z3, Try.underlying4, Try.Ty.s4, Try.Ty.b4, Try.Ty.a4, Try.Ty.z4, Try.underlying5, Try.Ty.s5, Try.Ty.b5, Try.Ty.a5, Try.Ty.z5, Try.underlying6, Try.Ty.s6, Try.Ty.b6, Try.Ty.a6, Try.Ty.z6, Try.underlying7, Try.Ty.s7, Try.Ty.b7, Try.Ty.a7, Try.Ty.g7, Try.Ty.h7, Try.Ty.z7, Try.underlying8, Try.Ty.s8, Try.Ty.b8, Try.Ty.a8, Try.Ty.g8, Try.Ty.h8, Try.Ty.z8, Try.underlying9, Try.Ty.s9, Try.Ty.b9, Try.Ty.a9, Try.Ty.z9, Try.underlying10, Try.Ty.s10, Try.Ty.b10, Try.Ty.a10, Try.Ty.z10, Try.underlying11, Try.Ty.s11, Try.Ty.b11, Try.Ty.a11, Try.Ty.z11, Try.underlying12, Try.Ty.s12, Try.Ty.b12, Try.Ty.a12, Try.Ty.z12, Try.underlying13, Try.Ty.s13, Try.Ty.b13, Try.Ty.a13, Try.Ty.z13, Try.underlying14, Try.Ty.s14, Try.Ty.b14, Try.Ty.a14, Try.Ty.z14, Try.Ty.g15, Try.underlying15, Try.Ty.s15, Try.Ty.b15, Try.Ty.a15, Try.Ty.z15, Try.Ty.g16, Try.underlying16, Try.Ty.s16, Try.Ty.b16, Try.Ty.a16, Try.Ty.z16, Try.Ty.g17, Try.underlying17, Try.Ty.s17, Try.Ty.b17, Try.Ty.a17, Try.Ty.z17, Try.underlying18, Try.Ty.s18, Try.Ty.b18, Try.Ty.a18, Try.Ty.z18, Try.Ty.g27, Try.underlying27, Try.underlying32, Try.Ty.s32, Try.Ty.b32, Try.Ty.a32, Try.Ty.z32, Try.Ty.g39, Try.underlying39, Try.Ty.g40, Try.underlying40, Try.Ty.s40, Try.Ty.b40, Try.Ty.a40, Try.Ty.z40, Try.Ty.g42, Try.underlying42, Try.Ty.g43, Try.underlying43, Try.Ty.g44, Try.underlying44, Try.Ty.g45, Try.underlying45, Try.underlying49, Try.Ty.s49, Try.Ty.b49, Try.Ty.a49, Try.Ty.g49, Try.Ty.h49, Try.Ty.z49, Try.Ty.g50, Try.underlying50, Try.Ty.g53, Try.underlying53, Try.Ty.g54, Try.underlying54, Try.Ty.g55, Try.underlying55, Try.Ty.g56, Try.underlying56, Try.Ty.g57, Try.underlying57, Try.Ty.s57, Try.Ty.b57, Try.Ty.a57, Try.Ty.z57, Try.Ty.g58, Try.underlying58, Try.Ty.g60, Try.underlying60, Try.Ty.s60, Try.Ty.b60, Try.Ty.a60, Try.Ty.z60, Try.Ty.g62, Try.underlying62, Try.underlying67, Try.Ty.s67, Try.Ty.b67, Try.Ty.a67, Try.Ty.g67, Try.Ty.h67, Try.Ty.z67, Try.Ty.g71, Try.underlying71, Try.Ty.g72, Try.underlying72, Try.underlying73, Try.Ty.s73, Try.Ty.b73, Try.Ty.a73, Try.Ty.g73, Try.Ty.h73, Try.Ty.z73, Try.Ty.g74, Try.underlying74, Try.Ty.g244, Try.underlying244, Try.Ty.s244, Try.Ty.b244, Try.Ty.a244, Try.Ty.z244, Try.underlying256, Try.Ty.s256, Try.Ty.b256, Try.Ty.a256, Try.Ty.z256, Try.underlying268, Try.Ty.s268, Try.Ty.b268, Try.Ty.a268, Try.Ty.z268, Try.underlying269, Try.Ty.s269, Try.Ty.b269, Try.Ty.a269, Try.Ty.z269, Try.underlying271, Try.Ty.s271, Try.Ty.b271, Try.Ty.a271, Try.Ty.z271, Try.underlying272, Try.Ty.s272, Try.Ty.b272, Try.Ty.a272, Try.Ty.z272, Try.underlying273, Try.Ty.s273, Try.Ty.b273, Try.Ty.a273, Try.Ty.z273, Try.Ty.g274, Try.underlying274, Try.underlying275, Try.Ty.s275, Try.Ty.b275, Try.Ty.a275, Try.Ty.z275, Try.underlying276, Try.Ty.s276, Try.Ty.b276, Try.Ty.a276, Try.Ty.z276, Try.underlying278, Try.Ty.s278, Try.Ty.b278, Try.Ty.a278, Try.Ty.z278]
  (try simp (config := {maxSteps := 2000000}) only [gimp, impB, isT, go_sem, reduceIte, Nat.reduceEqDiff, Nat.reduceAdd, Nat.reduceMul, Nat.reduceSub, Nat.reduceBEq, Nat.reduceLT, Nat.reduceLeDiff, reduceCtorEq, Int.reduceNeg, Int.reduceEq, String.reduceEq, Int.reduceLT, Int.reduceLE, Int.reduceToNat, Int.reduceAdd, Int.reduceMul, Int.reduceSub])
  have h1 : (n.take 60).length ≤ 60 := by rw [List.length_take]; omega
  have h2 : (s.take 1000).length ≤ 1000 := by rw [List.length_take]; omega
  generalize n.take 60 = m at *
  generalize s.take 1000 = t at *
  obtain ⟨p1, p2, p3, p4⟩ := pars_len t
  refine ⟨hl, fun hf => ?_⟩
  obtain ⟨f1, f2⟩ := few_len hf
  have f3 := few_text h1 hf
  refine ⟨⟨⟨by omega, f1, f2⟩, fun hm => ?_, fun _ => ⟨(), trivial⟩⟩, by omega, fun h => ?_, fun h => ?_⟩
  · obtain ⟨q1, q2, q3⟩ := print_parse hm
    refine ⟨f3, by omega, fun h => ?_, fun _ _ _ => ?_⟩
    · rcases h with (h | h) | h
      · exact h q2
      · rw [q3, List.length_map] at h; exact h rfl
      · exact h q1
    · rw [q3]
      refine VL_inv (X := Nat) (fun k => ⟨[(1, enc_flds l), (2, .str t), (10, enc_flds (l.map fun p => (lowerS p.1, p.2))), (64, .int .i64 l.length), (65, .int .i64 k)], []⟩) (fun k => k ≤ l.length) (fun k => l.length - k) 0 ?_ ?_ ?_
      · simp only [q3, List.length_map, go_sem, go_sem, reduceIte, Nat.reduceEqDiff, Nat.reduceAdd, Nat.reduceMul, Nat.reduceSub, Nat.reduceBEq, Nat.reduceLT, Nat.reduceLeDiff, reduceCtorEq, Int.reduceNeg, Int.reduceEq, String.reduceEq, Int.reduceLT, Int.reduceLE, Int.reduceToNat, Int.reduceAdd, Int.reduceMul, Int.reduceSub]
        try rfl
      · exact Nat.zero_le _
      rintro k hk
      have hget : ∀ k, (l.map fun p => (lowerS p.1, p.2)).getD k ([], []) = (lowerS (l.getD k ([], [])).1, (l.getD k ([], [])).2) := fun k => by
        simp only [List.getD_eq_getElem?_getD, List.getElem?_map]
        cases l[k]? <;> rfl
      simp only [hget, List.length_map, T_specLawBack, Go.Proofs.Try.Par.tb_specFew, Go.Proofs.Try.Par.tb_specPrint, Go.Proofs.Try.Par.tb_specParse, Go.Proofs.Try.Par.tb_specSame, Go.Proofs.Try.Oct.tb_specLowerR, Go.Proofs.Try.Par.tb_specLives, go_sem, go_sem, reduceIte, Nat.reduceEqDiff, Nat.reduceAdd, Nat.reduceMul, Nat.reduceSub, Nat.reduceBEq, Nat.reduceLT, Nat.reduceLeDiff, reduceCtorEq, Int.reduceNeg, Int.reduceEq, String.reduceEq, Int.reduceLT, Int.reduceLE, Int.reduceToNat, Int.reduceAdd, Int.reduceMul, Int.reduceSub, Try.Ty.g1, Try.underlying1, Try.underlying2, Try.Ty.s2, Try.Ty.b2, Try.Ty.a2, Try.Ty.z2, Try.underlying3, Try.Ty.s3, Try.Ty.b3, Try.Ty.a3, Try.Ty.z3, Try.underlying4, Try.Ty.s4, Try.Ty.b4, Try.Ty.a4, Try.Ty.z4, Try.underlying5, Try.Ty.s5, Try.Ty.b5, Try.Ty.a5, Try.Ty.z5, Try.underlying6, Try.Ty.s6, Try.Ty.b6, Try.Ty.a6, Try.Ty.z6, Try.underlying7, Try.Ty.s7, Try.Ty.b7, Try.Ty.a7, Try.Ty.g7, Try.Ty.h7, Try.Ty.z7, Try.underlying8, Try.Ty.s8, Try.Ty.b8, Try.Ty.a8, Try.Ty.g8, Try.Ty.h8, Try.Ty.z8, Try.underlying9, Try.Ty.s9, Try.Ty.b9, Try.Ty.a9, Try.Ty.z9, Try.underlying10, Try.Ty.s10, Try.Ty.b10, Try.Ty.a10, Try.Ty.z10, Try.underlying11, Try.Ty.s11, Try.Ty.b11, Try.Ty.a11, Try.Ty.z11, Try.underlying12, Try.Ty.s12, Try.Ty.b12, Try.Ty.a12, Try.Ty.z12, Try.underlying13, Try.Ty.s13, Try.Ty.b13, Try.Ty.a13, Try.Ty.z13, Try.underlying14, Try.Ty.s14, Try.Ty.b14, Try.Ty.a14, Try.Ty.z14, Try.Ty.g15, Try.underlying15, Try.Ty.s15, Try.Ty.b15, Try.Ty.a15, Try.Ty.z15, Try.Ty.g16, Try.underlying16, Try.Ty.s16, Try.Ty.b16, Try.Ty.a16, Try.Ty.z16, Try.Ty.g17, Try.underlying17, Try.Ty.s17, Try.Ty.b17, Try.Ty.a17, Try.Ty.z17, Try.underlying18, Try.Ty.s18, Try.Ty.b18, Try.Ty.a18, Try.Ty.z18, Try.Ty.g27, Try.underlying27, Try.underlying32, Try.Ty.s32, Try.Ty.b32, Try.Ty.a32, Try.Ty.z32, Try.Ty.g39, Try.underlying39, Try.Ty.g40, Try.underlying40, Try.Ty.s40, Try.Ty.b40, Try.Ty.a40, Try.Ty.z40, Try.Ty.g42, Try.underlying42, Try.Ty.g43, Try.underlying43, Try.Ty.g44, Try.underlying44, Try.Ty.g45, Try.underlying45, Try.underlying49, Try.Ty.s49, Try.Ty.b49, Try.Ty.a49, Try.Ty.g49, Try.Ty.h49, Try.Ty.z49, Try.Ty.g50, Try.underlying50, Try.Ty.g53, Try.underlying53, Try.Ty.g54, Try.underlying54, Try.Ty.g55, Try.underlying55, Try.Ty.g56, Try.underlying56, Try.Ty.g57, Try.underlying57, Try.Ty.s57, Try.Ty.b57, Try.Ty.a57, Try.Ty.z57, Try.Ty.g58, Try.underlying58, Try.Ty.g60, Try.underlying60, Try.Ty.s60, Try.Ty.b60, Try.Ty.a60, Try.Ty.z60, Try.Ty.g62, Try.underlying62, Try.underlying67, Try.Ty.s67, Try.Ty.b67, Try.Ty.a67, Try.Ty.g67, Try.Ty.h67, Try.Ty.z67, Try.Ty.g71, Try.underlying71, Try.Ty.g72, Try.underlying72, Try.underlying73, Try.Ty.s73, Try.Ty.b73, Try.Ty.a73, Try.Ty.g73, Try.Ty.h73, Try.Ty.z73, Try.Ty.g74, Try.underlying74, Try.Ty.g244, Try.underlying244, Try.Ty.s244, Try.Ty.b244, Try.Ty.a244, Try.Ty.z244, Try.underlying256, Try.Ty.s256, Try.Ty.b256, Try.Ty.a256, Try.Ty.z256, Try.underlying268, Try.Ty.s268, Try.Ty.b268, Try.Ty.a268, Try.Ty.z268, Try.underlying269, Try.Ty.s269, Try.Ty.b269, Try.Ty.a269, Try.Ty.z269, Try.underlying271, Try.Ty.s271, Try.Ty.b271, Try.Ty.a271, Try.Ty.z271, Try.underlying272, Try.Ty.s272, Try.Ty.b272, Try.Ty.a272, Try.Ty.z272, Try.underlying273, Try.Ty.s273, Try.Ty.b273, Try.Ty.a273, Try.Ty.z273, Try.Ty.g274, Try.underlying274, Try.underlying275, Try.Ty.s275, Try.Ty.b275, Try.Ty.a275, Try.Ty.z275, Try.underlying276, Try.Ty.s276, Try.Ty.b276, Try.Ty.a276, Try.Ty.z276, Try.underlying278, Try.Ty.s278, Try.Ty.b278, Try.Ty.a278, Try.Ty.z278]
      refine ⟨fun hlt => ?_, fun _ => ⟨(), trivial⟩⟩
      have := (f2 _ (List.mem_of_getElem? (getD_of_lt (s := l) (i := k) (d := ([], [])) (by omega)))).1
      refine ⟨by omega, by omega, this, ⟨?_, ?_⟩, ⟨?_, ?_⟩, by omega, k + 1, by omega, by omega, by omega⟩ <;> (simp only [gimp]; omega)
  · obtain ⟨b1, b2⟩ := parse_bad h
    rw [b1, b2]; exact ⟨rfl, rfl⟩
  · obtain ⟨g1, g2, g3⟩ := parse_may h
    obtain ⟨q1, q2, q3⟩ := print_parse g1
    refine ⟨⟨by omega, by omega, fun p hp => by have := p4 p hp; omega⟩, by omega, fun _ _ => ?_, ⟨⟨g1, by rw [q2, g2]⟩, by rw [q3, g3]⟩, q1⟩
    rw [q3, g3]; omega
def tb_specLawBack : List Blk → List AV → Option (List Blk × AV × Prop)
  | [], [.str n, a1, .str s] => some ([], .bool true, (n.length ≤ maxLen) ∧ ((dec_flds a1).length ≤ maxLen) ∧ (s.length ≤ maxLen) ∧ argOK a1 (enc_flds (dec_flds a1)))
  | _, _ => none
theorem tb_specLawBack_ok : ∀ E args E' res p, tb_specLawBack E args = some (E', res, p) → p → SpecE Try.prog 11 E args E' res := by
  intro E args E' res p h hp
  unfold tb_specLawBack at h
  split at h
  · simp only [Option.some.injEq, Prod.mk.injEq] at h
    obtain ⟨rfl, rfl, rfl⟩ := h
    exact SpecE.args (specLawBack _ _ _ hp.1 hp.2.1 hp.2.2.1) (.cons (argOK.refl _) (.cons hp.2.2.2 (.cons (argOK.refl _) .nil)))
  · cases h
end Go.Proofs.Try.Par
