/- digits: the walks over the library; the statement DigitsRead. No condition. -/
import Derived.Test.YtanpmebamgnhbaaDig
import Derived.Test.YtanpmebamgnhbaaLibS
set_option linter.unusedVariables false
set_option linter.unusedSimpArgs false
namespace Go.Proofs.Try.Dig
open Go Go.Abs Go.Proofs Go.Mdl

def T_specPad : Tbl := fun g E args => (addT (addT nilT 153 Go.Proofs.Try.Dig.tb_specText) 265 Go.Proofs.Try.Lib.tb_specRepeat) g E args
theorem T_specPad_ok : TblOK Try.prog T_specPad := (addT_ok (addT_ok nilT_ok (by decide +kernel) Go.Proofs.Try.Dig.tb_specText_ok) (by decide +kernel) Go.Proofs.Try.Lib.tb_specRepeat_ok)
set_option maxRecDepth 100000 in
set_option maxHeartbeats 4000000 in
theorem specPad (n wide : Int) (hn : inR .i64 n) (hw : -1000000 ≤ wide ∧ wide ≤ 9223372036854775807) : SpecE Try.prog 170 [] [.int .i64 n, .int .i64 wide] [] (.str (padS n wide)) := by
  refine specF0 (C := T_specPad) (wr := false) (D := fun _ => []) (U := fun _ => none) (res := [.str (padS n wide)]) Try.Ty.mixed T_specPad_ok Try.func170 (nA := 2) (by decide +kernel) rfl (fun _ => rfl) ?_
  simp only [Try.f170, bodyOf, rlOf]
  rw [W_V]
  simp (config := {maxSteps := 2000000}) only [T_specPad, Go.Proofs.Try.Dig.tb_specText, Go.Proofs.Try.Lib.tb_specRepeat, go_sem, go_sem, reduceIte, Nat.reduceEqDiff, Nat.reduceAdd, Nat.reduceMul, Nat.reduceSub, Nat.reduceBEq, Nat.reduceLT, Nat.reduceLeDiff, reduceCtorEq, Int.reduceNeg, Int.reduceEq, String.reduceEq, Int.reduceLT, Int.reduceLE, Int.reduceToNat, Int.reduceAdd, Int.reduceMul, Int.reduceSub, Try.Ty.g1, Try.underlying1, Try.underlying2, Try.Ty.s2, Try.Ty.b2, Try.Ty.a2, Try.Ty.z2, Try.underlying3, Try.Ty.s3, Try.Ty.b3, Try.Ty.a3, Try.Ty.z3, Try.underlying4, Try.Ty.s4, Try.Ty.b4, Try.Ty.a4, Try.Ty.z4, Try.underlying9, Try.Ty.s9, Try.Ty.b9, Try.Ty.a9, Try.Ty.z9, Try.underlying20, Try.Ty.s20, Try.Ty.b20, Try.Ty.a20, Try.Ty.z20, Try.Ty.g37, Try.underlying37, Try.Ty.g55, Try.underlying55, Try.Ty.g95, Try.underlying95, Try.Ty.g96, Try.underlying96, Try.Ty.g147, Try.underlying147, Try.underlying153, Try.Ty.s153, Try.Ty.b153, Try.Ty.a153, Try.Ty.g153, Try.Ty.h153, Try.Ty.z153, Try.Ty.g265, Try.underlying265]
  (try simp (config := {maxSteps := 2000000}) only [gimp, impB, isT, go_sem, reduceIte, Nat.reduceEqDiff, Nat.reduceAdd, Nat.reduceMul, Nat.reduceSub, Nat.reduceBEq, Nat.reduceLT, Nat.reduceLeDiff, reduceCtorEq, Int.reduceNeg, Int.reduceEq, String.reduceEq, Int.reduceLT, Int.reduceLE, Int.reduceToNat, Int.reduceAdd, Int.reduceMul, Int.reduceSub])
  have h1 := textI_len n
  simp only [inR] at hn
  refine ⟨hn, fun h => by simp [padS, h], fun h => ?_⟩
  simp only [repeatL_one]
  refine ⟨by omega, by omega, by simp only [List.length_replicate]; omega, ?_⟩
  simp [padS, Int.not_lt.2 h]
def tb_specPad : List Blk → List AV → Option (List Blk × AV × Prop)
  | [], [.int .i64 n, .int .i64 wide] => some ([], .str (padS n wide), (inR .i64 n) ∧ (-1000000 ≤ wide ∧ wide ≤ 9223372036854775807))
  | _, _ => none
theorem tb_specPad_ok : ∀ E args E' res p, tb_specPad E args = some (E', res, p) → p → SpecE Try.prog 170 E args E' res := by
  intro E args E' res p h hp
  unfold tb_specPad at h
  split at h
  · simp only [Option.some.injEq, Prod.mk.injEq] at h
    obtain ⟨rfl, rfl, rfl⟩ := h
    exact (specPad _ _ hp.1 hp.2)
  · cases h

def T_specLives : Tbl := fun g E args => (addT (addT (addT (addT (addT nilT 60 Go.Proofs.Try.Dig.tb_specHex) 58 Go.Proofs.Try.Dig.tb_specDec) 170 Go.Proofs.Try.Dig.tb_specPad) 171 Go.Proofs.Try.Dig.tb_specHexText) 153 Go.Proofs.Try.Dig.tb_specText) g E args
theorem T_specLives_ok : TblOK Try.prog T_specLives := (addT_ok (addT_ok (addT_ok (addT_ok (addT_ok nilT_ok (by decide +kernel) Go.Proofs.Try.Dig.tb_specHex_ok) (by decide +kernel) Go.Proofs.Try.Dig.tb_specDec_ok) (by decide +kernel) Go.Proofs.Try.Dig.tb_specPad_ok) (by decide +kernel) Go.Proofs.Try.Dig.tb_specHexText_ok) (by decide +kernel) Go.Proofs.Try.Dig.tb_specText_ok)
set_option maxRecDepth 100000 in
set_option maxHeartbeats 4000000 in
theorem specLives : SpecE Try.prog 61 [] [] [] (.bool true) := by
  refine specF0 (C := T_specLives) (wr := false) (D := fun _ => []) (U := fun _ => none) (res := [.bool true]) Try.Ty.mixed T_specLives_ok Try.func61 (nA := 0) (by decide +kernel) rfl (fun _ => rfl) ?_
  simp only [Try.f61, bodyOf, rlOf]
  rw [W_V]
  simp (config := {maxSteps := 2000000}) only [T_specLives, Go.Proofs.Try.Dig.tb_specHex, Go.Proofs.Try.Dig.tb_specDec, Go.Proofs.Try.Dig.tb_specPad, Go.Proofs.Try.Dig.tb_specHexText, Go.Proofs.Try.Dig.tb_specText, go_sem, go_sem, reduceIte, Nat.reduceEqDiff, Nat.reduceAdd, Nat.reduceMul, Nat.reduceSub, Nat.reduceBEq, Nat.reduceLT, Nat.reduceLeDiff, reduceCtorEq, Int.reduceNeg, Int.reduceEq, String.reduceEq, Int.reduceLT, Int.reduceLE, Int.reduceToNat, Int.reduceAdd, Int.reduceMul, Int.reduceSub, Try.Ty.g1, Try.underlying1, Try.underlying2, Try.Ty.s2, Try.Ty.b2, Try.Ty.a2, Try.Ty.z2, Try.underlying3, Try.Ty.s3, Try.Ty.b3, Try.Ty.a3, Try.Ty.z3, Try.underlying4, Try.Ty.s4, Try.Ty.b4, Try.Ty.a4, Try.Ty.z4, Try.underlying5, Try.Ty.s5, Try.Ty.b5, Try.Ty.a5, Try.Ty.z5, Try.underlying6, Try.Ty.s6, Try.Ty.b6, Try.Ty.a6, Try.Ty.z6, Try.underlying7, Try.Ty.s7, Try.Ty.b7, Try.Ty.a7, Try.Ty.g7, Try.Ty.h7, Try.Ty.z7, Try.underlying9, Try.Ty.s9, Try.Ty.b9, Try.Ty.a9, Try.Ty.z9, Try.underlying12, Try.Ty.s12, Try.Ty.b12, Try.Ty.a12, Try.Ty.z12, Try.underlying13, Try.Ty.s13, Try.Ty.b13, Try.Ty.a13, Try.Ty.z13, Try.underlying14, Try.Ty.s14, Try.Ty.b14, Try.Ty.a14, Try.Ty.z14, Try.Ty.g15, Try.underlying15, Try.Ty.s15, Try.Ty.b15, Try.Ty.a15, Try.Ty.z15, Try.Ty.g17, Try.underlying17, Try.Ty.s17, Try.Ty.b17, Try.Ty.a17, Try.Ty.z17, Try.Ty.g27, Try.underlying27, Try.Ty.g31, Try.underlying31, Try.underlying32, Try.Ty.s32, Try.Ty.b32, Try.Ty.a32, Try.Ty.z32, Try.Ty.g52, Try.underlying52, Try.Ty.g55, Try.underlying55, Try.Ty.g58, Try.underlying58, Try.Ty.g60, Try.underlying60, Try.Ty.s60, Try.Ty.b60, Try.Ty.a60, Try.Ty.z60, Try.underlying73, Try.Ty.s73, Try.Ty.b73, Try.Ty.a73, Try.Ty.g73, Try.Ty.h73, Try.Ty.z73, Try.underlying79, Try.Ty.s79, Try.Ty.b79, Try.Ty.a79, Try.Ty.g79, Try.Ty.h79, Try.Ty.z79, Try.underlying81, Try.Ty.s81, Try.Ty.b81, Try.Ty.a81, Try.Ty.g81, Try.Ty.h81, Try.Ty.z81, Try.Ty.g100, Try.underlying100, Try.Ty.g147, Try.underlying147, Try.underlying153, Try.Ty.s153, Try.Ty.b153, Try.Ty.a153, Try.Ty.g153, Try.Ty.h153, Try.Ty.z153, Try.Ty.g170, Try.underlying170, Try.Ty.s170, Try.Ty.b170, Try.Ty.a170, Try.Ty.z170, Try.Ty.g171, Try.underlying171, Try.Ty.g244, Try.underlying244, Try.Ty.s244, Try.Ty.b244, Try.Ty.a244, Try.Ty.z244, Try.Ty.g255, Try.underlying255, Try.underlying256, Try.Ty.s256, Try.Ty.b256, Try.Ty.a256, Try.Ty.z256, Try.underlying268, Try.Ty.s268, Try.Ty.b268, Try.Ty.a268, Try.Ty.z268, Try.underlying272, Try.Ty.s272, Try.Ty.b272, Try.Ty.a272, Try.Ty.z272, Try.underlying273, Try.Ty.s273, Try.Ty.b273, Try.Ty.a273, Try.Ty.z273, Try.Ty.g274, Try.underlying274, Try.underlying275, Try.Ty.s275, Try.Ty.b275, Try.Ty.a275, Try.Ty.z275, Try.underlying276, Try.Ty.s276, Try.Ty.b276, Try.Ty.a276, Try.Ty.z276, Try.underlying278, Try.Ty.s278, Try.Ty.b278, Try.Ty.a278, Try.Ty.z278]
  (try simp (config := {maxSteps := 2000000}) only [gimp, impB, isT, go_sem, reduceIte, Nat.reduceEqDiff, Nat.reduceAdd, Nat.reduceMul, Nat.reduceSub, Nat.reduceBEq, Nat.reduceLT, Nat.reduceLeDiff, reduceCtorEq, Int.reduceNeg, Int.reduceEq, String.reduceEq, Int.reduceLT, Int.reduceLE, Int.reduceToNat, Int.reduceAdd, Int.reduceMul, Int.reduceSub])
  decide +kernel
def tb_specLives : List Blk → List AV → Option (List Blk × AV × Prop)
  | [], [] => some ([], .bool true, True)
  | _, _ => none
theorem tb_specLives_ok : ∀ E args E' res p, tb_specLives E args = some (E', res, p) → p → SpecE Try.prog 61 E args E' res := by
  intro E args E' res p h hp
  unfold tb_specLives at h
  split at h
  · simp only [Option.some.injEq, Prod.mk.injEq] at h
    obtain ⟨rfl, rfl, rfl⟩ := h
    exact specLives
  · cases h

def T_specLawRead : Tbl := fun g E args => (addT (addT (addT (addT nilT 58 Go.Proofs.Try.Dig.tb_specDec) 60 Go.Proofs.Try.Dig.tb_specHex) 59 Go.Proofs.Try.Dig.tb_specNumberR) 61 Go.Proofs.Try.Dig.tb_specLives) g E args
theorem T_specLawRead_ok : TblOK Try.prog T_specLawRead := (addT_ok (addT_ok (addT_ok (addT_ok nilT_ok (by decide +kernel) Go.Proofs.Try.Dig.tb_specDec_ok) (by decide +kernel) Go.Proofs.Try.Dig.tb_specHex_ok) (by decide +kernel) Go.Proofs.Try.Dig.tb_specNumberR_ok) (by decide +kernel) Go.Proofs.Try.Dig.tb_specLives_ok)
set_option maxRecDepth 100000 in
set_option maxHeartbeats 4000000 in
theorem specLawRead (s : List UInt8) (most : Int) (hs : s.length ≤ maxLen) (hm : inR .i64 most) : SpecE Try.prog 12 [] [.str s, .int .i64 most] [] (.bool true) := by
  refine specF0 (C := T_specLawRead) (wr := false) (D := fun _ => []) (U := fun _ => none) (res := [.bool true]) Try.Ty.mixed T_specLawRead_ok Try.func12 (nA := 2) (by decide +kernel) rfl (fun _ => rfl) ?_
  simp only [Try.f12, bodyOf, rlOf]
  rw [W_V]
  simp (config := {maxSteps := 2000000}) only [T_specLawRead, Go.Proofs.Try.Dig.tb_specDec, Go.Proofs.Try.Dig.tb_specHex, Go.Proofs.Try.Dig.tb_specNumberR, Go.Proofs.Try.Dig.tb_specLives, go_sem, go_sem, reduceIte, Nat.reduceEqDiff, Nat.reduceAdd, Nat.reduceMul, Nat.reduceSub, Nat.reduceBEq, Nat.reduceLT, Nat.reduceLeDiff, reduceCtorEq, Int.reduceNeg, Int.reduceEq, String.reduceEq, Int.reduceLT, Int.reduceLE, Int.reduceToNat, Int.reduceAdd, Int.reduceMul, Int.reduceSub, Try.Ty.g1, Try.underlying1, Try.underlying2, Try.Ty.s2, Try.Ty.b2, Try.Ty.a2, Try.Ty.z2, Try.underlying3, Try.Ty.s3, Try.Ty.b3, Try.Ty.a3, Try.Ty.z3, Try.underlying4, Try.Ty.s4, Try.Ty.b4, Try.Ty.a4, Try.Ty.z4, Try.underlying5, Try.Ty.s5, Try.Ty.b5, Try.Ty.a5, Try.Ty.z5, Try.underlying6, Try.Ty.s6, Try.Ty.b6, Try.Ty.a6, Try.Ty.z6, Try.underlying7, Try.Ty.s7, Try.Ty.b7, Try.Ty.a7, Try.Ty.g7, Try.Ty.h7, Try.Ty.z7, Try.underlying8, Try.Ty.s8, Try.Ty.b8, Try.Ty.a8, Try.Ty.g8, Try.Ty.h8, Try.Ty.z8, Try.underlying9, Try.Ty.s9, Try.Ty.b9, Try.Ty.a9, Try.Ty.z9, Try.underlying10, Try.Ty.s10, Try.Ty.b10, Try.Ty.a10, Try.Ty.z10, Try.underlying11, Try.Ty.s11, Try.Ty.b11, Try.Ty.a11, Try.Ty.z11, Try.Ty.g16, Try.underlying16, Try.Ty.s16, Try.Ty.b16, Try.Ty.a16, Try.Ty.z16, Try.underlying20, Try.Ty.s20, Try.Ty.b20, Try.Ty.a20, Try.Ty.z20, Try.underlying21, Try.Ty.s21, Try.Ty.b21, Try.Ty.a21, Try.Ty.z21, Try.Ty.g22, Try.underlying22, Try.Ty.s22, Try.Ty.b22, Try.Ty.a22, Try.Ty.z22, Try.Ty.g24, Try.underlying24, Try.Ty.g25, Try.underlying25, Try.Ty.g27, Try.underlying27, Try.underlying32, Try.Ty.s32, Try.Ty.b32, Try.Ty.a32, Try.Ty.z32, Try.Ty.g38, Try.underlying38, Try.Ty.g52, Try.underlying52, Try.Ty.g53, Try.underlying53, Try.Ty.g58, Try.underlying58, Try.Ty.g59, Try.underlying59, Try.Ty.g60, Try.underlying60, Try.Ty.s60, Try.Ty.b60, Try.Ty.a60, Try.Ty.z60, Try.Ty.g61, Try.underlying61, Try.underlying73, Try.Ty.s73, Try.Ty.b73, Try.Ty.a73, Try.Ty.g73, Try.Ty.h73, Try.Ty.z73, Try.underlying269, Try.Ty.s269, Try.Ty.b269, Try.Ty.a269, Try.Ty.z269, Try.underlying271, Try.Ty.s271, Try.Ty.b271, Try.Ty.a271, Try.Ty.z271]
  (try simp (config := {maxSteps := 2000000}) only [gimp, impB, isT, go_sem, reduceIte, Nat.reduceEqDiff, Nat.reduceAdd, Nat.reduceMul, Nat.reduceSub, Nat.reduceBEq, Nat.reduceLT, Nat.reduceLeDiff, reduceCtorEq, Int.reduceNeg, Int.reduceEq, String.reduceEq, Int.reduceLT, Int.reduceLE, Int.reduceToNat, Int.reduceAdd, Int.reduceMul, Int.reduceSub])
  simp only [inR] at hm
  refine ⟨hm.2, ⟨hm.2, ?_⟩, hm.2, hm.2, ?_⟩ <;> (simp only [List.length_take]; omega)
def tb_specLawRead : List Blk → List AV → Option (List Blk × AV × Prop)
  | [], [.str s, .int .i64 most] => some ([], .bool true, (s.length ≤ maxLen) ∧ (inR .i64 most))
  | _, _ => none
theorem tb_specLawRead_ok : ∀ E args E' res p, tb_specLawRead E args = some (E', res, p) → p → SpecE Try.prog 12 E args E' res := by
  intro E args E' res p h hp
  unfold tb_specLawRead at h
  split at h
  · simp only [Option.some.injEq, Prod.mk.injEq] at h
    obtain ⟨rfl, rfl, rfl⟩ := h
    exact (specLawRead _ _ hp.1 hp.2)
  · cases h
end Go.Proofs.Try.Dig
