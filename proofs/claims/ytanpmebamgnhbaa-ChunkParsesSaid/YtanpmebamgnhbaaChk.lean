/- chunk: the walks of the program. No condition beyond those that a machine's numbers bring. -/
import Derived.Test.YtanpmebamgnhbaaChkM
import Derived.Test.YtanpmebamgnhbaaPar
import Derived.Test.YtanpmebamgnhbaaDig
import Derived.Test.YtanpmebamgnhbaaLib
set_option linter.unusedVariables false
set_option linter.unusedSimpArgs false
namespace Go.Mdl
open Go Go.Abs
def hexCI (r : Int) : Bool := decide (0 ≤ digI r ∧ digI r < 16)
theorem hexC_rune {s : List UInt8} {x : Nat} (hx : x < s.length) : hexCI (runeAt s x).1 = hexC (s.getD x 0) ∧ (hexC (s.getD x 0) = true → (runeAt s x).2 = 1) := by
  obtain ⟨h1, h2, h3⟩ := dig_rune hx
  refine ⟨by simp only [hexCI, h2, hexC, isDig], fun h => h3 ?_⟩
  rw [h2]
  exact ((isDig_iff 16 _).1 h).1
end Go.Mdl
namespace Go.Proofs.Try.Chk
open Go Go.Abs Go.Proofs Go.Mdl

def T_specHexC : Tbl := fun g E args => nilT g E args
theorem T_specHexC_ok : TblOK Try.prog T_specHexC := nilT_ok
set_option maxRecDepth 100000 in
set_option maxHeartbeats 4000000 in
theorem specHexC (r : Int) : SpecE Try.prog 266 [] [.int .i32 r] [] (.bool (hexCI r)) := by
  refine specF0 (C := T_specHexC) (wr := false) (D := fun _ => []) (U := fun _ => none) (res := [.bool (hexCI r)]) Try.Ty.mixed T_specHexC_ok Try.func266 (nA := 1) (by decide +kernel) rfl (fun _ => rfl) ?_
  simp only [Try.f266, bodyOf, rlOf]
  rw [W_V]
  simp (config := {maxSteps := 2000000}) only [T_specHexC, go_sem, go_sem, reduceIte, Nat.reduceEqDiff, Nat.reduceAdd, Nat.reduceMul, Nat.reduceSub, Nat.reduceBEq, Nat.reduceLT, Nat.reduceLeDiff, reduceCtorEq, Int.reduceNeg, Int.reduceEq, String.reduceEq, Int.reduceLT, Int.reduceLE, Int.reduceToNat, Int.reduceAdd, Int.reduceMul, Int.reduceSub, Try.Ty.g1, Try.underlying1, Try.underlying2, Try.Ty.s2, Try.Ty.b2, Try.Ty.a2, Try.Ty.z2, Try.underlying3, Try.Ty.s3, Try.Ty.b3, Try.Ty.a3, Try.Ty.z3, Try.underlying4, Try.Ty.s4, Try.Ty.b4, Try.Ty.a4, Try.Ty.z4, Try.underlying5, Try.Ty.s5, Try.Ty.b5, Try.Ty.a5, Try.Ty.z5, Try.underlying9, Try.Ty.s9, Try.Ty.b9, Try.Ty.a9, Try.Ty.z9, Try.underlying12, Try.Ty.s12, Try.Ty.b12, Try.Ty.a12, Try.Ty.z12, Try.Ty.g15, Try.underlying15, Try.Ty.s15, Try.Ty.b15, Try.Ty.a15, Try.Ty.z15, Try.Ty.g17, Try.underlying17, Try.Ty.s17, Try.Ty.b17, Try.Ty.a17, Try.Ty.z17, Try.underlying21, Try.Ty.s21, Try.Ty.b21, Try.Ty.a21, Try.Ty.z21, Try.underlying48, Try.Ty.s48, Try.Ty.b48, Try.Ty.a48, Try.Ty.g48, Try.Ty.h48, Try.Ty.z48, Try.Ty.g57, Try.underlying57, Try.Ty.s57, Try.Ty.b57, Try.Ty.a57, Try.Ty.z57, Try.Ty.g60, Try.underlying60, Try.Ty.s60, Try.Ty.b60, Try.Ty.a60, Try.Ty.z60, Try.underlying65, Try.Ty.s65, Try.Ty.b65, Try.Ty.a65, Try.Ty.g65, Try.Ty.h65, Try.Ty.z65, Try.Ty.g70, Try.underlying70, Try.underlying73, Try.Ty.s73, Try.Ty.b73, Try.Ty.a73, Try.Ty.g73, Try.Ty.h73, Try.Ty.z73, Try.underlying97, Try.Ty.s97, Try.Ty.b97, Try.Ty.a97, Try.Ty.z97, Try.Ty.g217, Try.underlying217, Try.Ty.g244, Try.underlying244, Try.Ty.s244, Try.Ty.b244, Try.Ty.a244, Try.Ty.z244, Try.underlying256, Try.Ty.s256, Try.Ty.b256, Try.Ty.a256, Try.Ty.z256, Try.underlying268, Try.Ty.s268, Try.Ty.b268, Try.Ty.a268, Try.Ty.z268, Try.underlying272, Try.Ty.s272, Try.Ty.b272, Try.Ty.a272, Try.Ty.z272, Try.underlying273, Try.Ty.s273, Try.Ty.b273, Try.Ty.a273, Try.Ty.z273, Try.Ty.g274, Try.underlying274, Try.underlying275, Try.Ty.s275, Try.Ty.b275, Try.Ty.a275, Try.Ty.z275, Try.underlying276, Try.Ty.s276, Try.Ty.b276, Try.Ty.a276, Try.Ty.z276, Try.underlying278, Try.Ty.s278, Try.Ty.b278, Try.Ty.a278, Try.Ty.z278]
  (try simp (config := {maxSteps := 2000000}) only [gimp, impB, isT, go_sem, reduceIte, Nat.reduceEqDiff, Nat.reduceAdd, Nat.reduceMul, Nat.reduceSub, Nat.reduceBEq, Nat.reduceLT, Nat.reduceLeDiff, reduceCtorEq, Int.reduceNeg, Int.reduceEq, String.reduceEq, Int.reduceLT, Int.reduceLE, Int.reduceToNat, Int.reduceAdd, Int.reduceMul, Int.reduceSub])
  unfold hexCI
  rw [Bool.eq_iff_iff, decide_eq_true_iff]
  simp only [digI, Bool.or_eq_true, Bool.and_eq_true, decide_eq_true_iff]
  split
  · omega
  · split
    · omega
    · split <;> omega
def tb_specHexC : List Blk → List AV → Option (List Blk × AV × Prop)
  | [], [.int .i32 r] => some ([], .bool (hexCI r), True)
  | _, _ => none
theorem tb_specHexC_ok : ∀ E args E' res p, tb_specHexC E args = some (E', res, p) → p → SpecE Try.prog 266 E args E' res := by
  intro E args E' res p h hp
  unfold tb_specHexC at h
  split at h
  · simp only [Option.some.injEq, Prod.mk.injEq] at h
    obtain ⟨rfl, rfl, rfl⟩ := h
    exact (specHexC _)
  · cases h

def T_specSplitC : Tbl := fun g E args => (addT nilT 266 Go.Proofs.Try.Chk.tb_specHexC) g E args
theorem T_specSplitC_ok : TblOK Try.prog T_specSplitC := (addT_ok nilT_ok (by decide +kernel) Go.Proofs.Try.Chk.tb_specHexC_ok)
set_option maxRecDepth 100000 in
set_option maxHeartbeats 4000000 in
theorem specSplitC (s : List UInt8) : SpecE Try.prog 172 [] [.str s] [] (.tuple [.str (chkSize s), .str (chkRest s)]) := by
  refine specF0 (C := T_specSplitC) (wr := false) (D := fun _ => []) (U := fun _ => none) (res := [.str (chkSize s), .str (chkRest s)]) Try.Ty.mixed T_specSplitC_ok Try.func172 (nA := 1) (by decide +kernel) rfl (fun _ => rfl) ?_
  simp only [Try.f172, bodyOf, rlOf]
  rw [W_V]
  simp (config := {maxSteps := 2000000}) only [T_specSplitC, Go.Proofs.Try.Chk.tb_specHexC, go_sem, go_sem, reduceIte, Nat.reduceEqDiff, Nat.reduceAdd, Nat.reduceMul, Nat.reduceSub, Nat.reduceBEq, Nat.reduceLT, Nat.reduceLeDiff, reduceCtorEq, Int.reduceNeg, Int.reduceEq, String.reduceEq, Int.reduceLT, Int.reduceLE, Int.reduceToNat, Int.reduceAdd, Int.reduceMul, Int.reduceSub, Try.Ty.g1, Try.underlying1, Try.underlying2, Try.Ty.s2, Try.Ty.b2, Try.Ty.a2, Try.Ty.z2, Try.underlying3, Try.Ty.s3, Try.Ty.b3, Try.Ty.a3, Try.Ty.z3, Try.underlying4, Try.Ty.s4, Try.Ty.b4, Try.Ty.a4, Try.Ty.z4, Try.underlying5, Try.Ty.s5, Try.Ty.b5, Try.Ty.a5, Try.Ty.z5, Try.underlying9, Try.Ty.s9, Try.Ty.b9, Try.Ty.a9, Try.Ty.z9, Try.underlying20, Try.Ty.s20, Try.Ty.b20, Try.Ty.a20, Try.Ty.z20, Try.underlying21, Try.Ty.s21, Try.Ty.b21, Try.Ty.a21, Try.Ty.z21, Try.Ty.g25, Try.underlying25, Try.Ty.g149, Try.underlying149, Try.Ty.g217, Try.underlying217, Try.Ty.g266, Try.underlying266]
  (try simp (config := {maxSteps := 2000000}) only [gimp, impB, isT, go_sem, reduceIte, Nat.reduceEqDiff, Nat.reduceAdd, Nat.reduceMul, Nat.reduceSub, Nat.reduceBEq, Nat.reduceLT, Nat.reduceLeDiff, reduceCtorEq, Int.reduceNeg, Int.reduceEq, String.reduceEq, Int.reduceLT, Int.reduceLE, Int.reduceToNat, Int.reduceAdd, Int.reduceMul, Int.reduceSub])
  refine VL_inv (X := Nat) (fun x => ⟨[(0, .str s), (7, .it 128)], [(128, .iter s x)]⟩) (fun x => x ≤ s.length ∧ (s.take x).all hexC = true) (fun x => s.length - x) 0 ?_ ?_ ?_
  · simp only [go_sem, go_sem, reduceIte, Nat.reduceEqDiff, Nat.reduceAdd, Nat.reduceMul, Nat.reduceSub, Nat.reduceBEq, Nat.reduceLT, Nat.reduceLeDiff, reduceCtorEq, Int.reduceNeg, Int.reduceEq, String.reduceEq, Int.reduceLT, Int.reduceLE, Int.reduceToNat, Int.reduceAdd, Int.reduceMul, Int.reduceSub]
    try rfl
  · exact ⟨Nat.zero_le _, by simp⟩
  rintro x ⟨hx, hn⟩
  simp (config := {maxSteps := 2000000}) only [T_specSplitC, Go.Proofs.Try.Chk.tb_specHexC, go_sem, go_sem, reduceIte, Nat.reduceEqDiff, Nat.reduceAdd, Nat.reduceMul, Nat.reduceSub, Nat.reduceBEq, Nat.reduceLT, Nat.reduceLeDiff, reduceCtorEq, Int.reduceNeg, Int.reduceEq, String.reduceEq, Int.reduceLT, Int.reduceLE, Int.reduceToNat, Int.reduceAdd, Int.reduceMul, Int.reduceSub, Try.Ty.g1, Try.underlying1, Try.underlying2, Try.Ty.s2, Try.Ty.b2, Try.Ty.a2, Try.Ty.z2, Try.underlying3, Try.Ty.s3, Try.Ty.b3, Try.Ty.a3, Try.Ty.z3, Try.underlying4, Try.Ty.s4, Try.Ty.b4, Try.Ty.a4, Try.Ty.z4, Try.underlying5, Try.Ty.s5, Try.Ty.b5, Try.Ty.a5, Try.Ty.z5, Try.underlying9, Try.Ty.s9, Try.Ty.b9, Try.Ty.a9, Try.Ty.z9, Try.underlying20, Try.Ty.s20, Try.Ty.b20, Try.Ty.a20, Try.Ty.z20, Try.underlying21, Try.Ty.s21, Try.Ty.b21, Try.Ty.a21, Try.Ty.z21, Try.Ty.g25, Try.underlying25, Try.Ty.g149, Try.underlying149, Try.Ty.g217, Try.underlying217, Try.Ty.g266, Try.underlying266]
  (try simp (config := {maxSteps := 2000000}) only [gimp, impB, isT, go_sem, reduceIte, Nat.reduceEqDiff, Nat.reduceAdd, Nat.reduceMul, Nat.reduceSub, Nat.reduceBEq, Nat.reduceLT, Nat.reduceLeDiff, reduceCtorEq, Int.reduceNeg, Int.reduceEq, String.reduceEq, Int.reduceLT, Int.reduceLE, Int.reduceToNat, Int.reduceAdd, Int.reduceMul, Int.reduceSub])
  have hnext : x < s.length → hexC (s.getD x 0) = true → (s.take (x + 1)).all hexC = true := fun h h2 => by
    rw [take_succ_getD 0 h, List.all_append, hn, Bool.true_and]; simpa using h2
  refine ⟨fun hlt => ⟨hlt, hlt, fun hno => ⟨by omega, by omega, ?_⟩, fun hy => ⟨x + 1, ?_, ⟨by omega, hnext hlt ?_⟩, by omega⟩⟩, fun hge => ?_⟩
  · rw [(hexC_rune hlt).1] at hno
    have := span_step hlt hn hno
    simp [chkSize, chkRest, this]
  · rw [(hexC_rune hlt).1] at hy
    rw [if_pos hlt, (hexC_rune hlt).2 hy]
  · rw [← (hexC_rune hlt).1]; exact hy
  · have : x = s.length := by omega
    subst this
    rw [List.take_length] at hn
    have := span_end hn
    simp [chkSize, chkRest, this]
def tb_specSplitC : List Blk → List AV → Option (List Blk × AV × Prop)
  | [], [.str s] => some ([], .tuple [.str (chkSize s), .str (chkRest s)], True)
  | _, _ => none
theorem tb_specSplitC_ok : ∀ E args E' res p, tb_specSplitC E args = some (E', res, p) → p → SpecE Try.prog 172 E args E' res := by
  intro E args E' res p h hp
  unfold tb_specSplitC at h
  split at h
  · simp only [Option.some.injEq, Prod.mk.injEq] at h
    obtain ⟨rfl, rfl, rfl⟩ := h
    exact (specSplitC _)
  · cases h

def T_specExt : Tbl := fun g E args => (addT (addT nilT 51 Go.Proofs.Try.Par.tb_specParse) 242 Go.Proofs.Try.Lib.tb_specIndexByte) g E args
theorem T_specExt_ok : TblOK Try.prog T_specExt := (addT_ok (addT_ok nilT_ok (by decide +kernel) Go.Proofs.Try.Par.tb_specParse_ok) (by decide +kernel) Go.Proofs.Try.Lib.tb_specIndexByte_ok)
set_option maxRecDepth 100000 in
set_option maxHeartbeats 4000000 in
theorem specExt (r : List UInt8) (hr : r.length ≤ 999999) : SpecE Try.prog 173 [] [.str r] [] (.bool (chkExt r)) := by
  refine specF0 (C := T_specExt) (wr := false) (D := fun _ => []) (U := fun _ => none) (res := [.bool (chkExt r)]) Try.Ty.mixed T_specExt_ok Try.func173 (nA := 1) (by decide +kernel) rfl (fun _ => rfl) ?_
  simp only [Try.f173, bodyOf, rlOf]
  rw [W_V]
  simp (config := {maxSteps := 2000000}) only [T_specExt, Go.Proofs.Try.Par.tb_specParse, Go.Proofs.Try.Lib.tb_specIndexByte, go_sem, go_sem, reduceIte, Nat.reduceEqDiff, Nat.reduceAdd, Nat.reduceMul, Nat.reduceSub, Nat.reduceBEq, Nat.reduceLT, Nat.reduceLeDiff, reduceCtorEq, Int.reduceNeg, Int.reduceEq, String.reduceEq, Int.reduceLT, Int.reduceLE, Int.reduceToNat, Int.reduceAdd, Int.reduceMul, Int.reduceSub, Try.Ty.g1, Try.underlying1, Try.underlying2, Try.Ty.s2, Try.Ty.b2, Try.Ty.a2, Try.Ty.z2, Try.underlying3, Try.Ty.s3, Try.Ty.b3, Try.Ty.a3, Try.Ty.z3, Try.underlying4, Try.Ty.s4, Try.Ty.b4, Try.Ty.a4, Try.Ty.z4, Try.underlying5, Try.Ty.s5, Try.Ty.b5, Try.Ty.a5, Try.Ty.z5, Try.underlying9, Try.Ty.s9, Try.Ty.b9, Try.Ty.a9, Try.Ty.z9, Try.Ty.g31, Try.underlying31, Try.underlying32, Try.Ty.s32, Try.Ty.b32, Try.Ty.a32, Try.Ty.z32, Try.Ty.g34, Try.underlying34, Try.Ty.g40, Try.underlying40, Try.Ty.s40, Try.Ty.b40, Try.Ty.a40, Try.Ty.z40, Try.Ty.g42, Try.underlying42, Try.underlying49, Try.Ty.s49, Try.Ty.b49, Try.Ty.a49, Try.Ty.g49, Try.Ty.h49, Try.Ty.z49, Try.Ty.g216, Try.underlying216, Try.Ty.g242, Try.underlying242]
  (try simp (config := {maxSteps := 2000000}) only [gimp, impB, isT, go_sem, reduceIte, Nat.reduceEqDiff, Nat.reduceAdd, Nat.reduceMul, Nat.reduceSub, Nat.reduceBEq, Nat.reduceLT, Nat.reduceLeDiff, reduceCtorEq, Int.reduceNeg, Int.reduceEq, String.reduceEq, Int.reduceLT, Int.reduceLE, Int.reduceToNat, Int.reduceAdd, Int.reduceMul, Int.reduceSub])
  refine ⟨fun h => by subst h; simp [chkExt, parsGo_nil], fun h => ⟨by omega, hr, fun _ => ?_, ext_iff h⟩⟩
  have := List.length_pos_iff.2 h
  omega
def tb_specExt : List Blk → List AV → Option (List Blk × AV × Prop)
  | [], [.str r] => some ([], .bool (chkExt r), (r.length ≤ 999999))
  | _, _ => none
theorem tb_specExt_ok : ∀ E args E' res p, tb_specExt E args = some (E', res, p) → p → SpecE Try.prog 173 E args E' res := by
  intro E args E' res p h hp
  unfold tb_specExt at h
  split at h
  · simp only [Option.some.injEq, Prod.mk.injEq] at h
    obtain ⟨rfl, rfl, rfl⟩ := h
    exact (specExt _ hp)
  · cases h

def T_specParse : Tbl := fun g E args => (addT (addT (addT nilT 172 Go.Proofs.Try.Chk.tb_specSplitC) 173 Go.Proofs.Try.Chk.tb_specExt) 60 Go.Proofs.Try.Dig.tb_specHex) g E args
theorem T_specParse_ok : TblOK Try.prog T_specParse := (addT_ok (addT_ok (addT_ok nilT_ok (by decide +kernel) Go.Proofs.Try.Chk.tb_specSplitC_ok) (by decide +kernel) Go.Proofs.Try.Chk.tb_specExt_ok) (by decide +kernel) Go.Proofs.Try.Dig.tb_specHex_ok)
set_option maxRecDepth 100000 in
set_option maxHeartbeats 4000000 in
theorem specParse (s : List UInt8) (hs : s.length ≤ 999999) : SpecE Try.prog 62 [] [.str s] [] (.tuple [.int .i64 (chkVal s), .int .i64 (chkErr s)]) := by
  refine specF0 (C := T_specParse) (wr := false) (D := fun _ => []) (U := fun _ => none) (res := [.int .i64 (chkVal s), .int .i64 (chkErr s)]) Try.Ty.mixed T_specParse_ok Try.func62 (nA := 1) (by decide +kernel) rfl (fun _ => rfl) ?_
  simp only [Try.f62, bodyOf, rlOf]
  rw [W_V]
  simp (config := {maxSteps := 2000000}) only [T_specParse, Go.Proofs.Try.Chk.tb_specSplitC, Go.Proofs.Try.Chk.tb_specExt, Go.Proofs.Try.Dig.tb_specHex, go_sem, go_sem, reduceIte, Nat.reduceEqDiff, Nat.reduceAdd, Nat.reduceMul, Nat.reduceSub, Nat.reduceBEq, Nat.reduceLT, Nat.reduceLeDiff, reduceCtorEq, Int.reduceNeg, Int.reduceEq, String.reduceEq, Int.reduceLT, Int.reduceLE, Int.reduceToNat, Int.reduceAdd, Int.reduceMul, Int.reduceSub, Try.Ty.g1, Try.underlying1, Try.underlying2, Try.Ty.s2, Try.Ty.b2, Try.Ty.a2, Try.Ty.z2, Try.underlying3, Try.Ty.s3, Try.Ty.b3, Try.Ty.a3, Try.Ty.z3, Try.underlying4, Try.Ty.s4, Try.Ty.b4, Try.Ty.a4, Try.Ty.z4, Try.underlying5, Try.Ty.s5, Try.Ty.b5, Try.Ty.a5, Try.Ty.z5, Try.underlying9, Try.Ty.s9, Try.Ty.b9, Try.Ty.a9, Try.Ty.z9, Try.Ty.g31, Try.underlying31, Try.underlying32, Try.Ty.s32, Try.Ty.b32, Try.Ty.a32, Try.Ty.z32, Try.Ty.g42, Try.underlying42, Try.Ty.g45, Try.underlying45, Try.Ty.g46, Try.underlying46, Try.Ty.g52, Try.underlying52, Try.Ty.g54, Try.underlying54, Try.Ty.g60, Try.underlying60, Try.Ty.s60, Try.Ty.b60, Try.Ty.a60, Try.Ty.z60, Try.underlying73, Try.Ty.s73, Try.Ty.b73, Try.Ty.a73, Try.Ty.g73, Try.Ty.h73, Try.Ty.z73, Try.Ty.g149, Try.underlying149, Try.Ty.g172, Try.underlying172]
  (try simp (config := {maxSteps := 2000000}) only [gimp, impB, isT, go_sem, reduceIte, Nat.reduceEqDiff, Nat.reduceAdd, Nat.reduceMul, Nat.reduceSub, Nat.reduceBEq, Nat.reduceLT, Nat.reduceLeDiff, reduceCtorEq, Int.reduceNeg, Int.reduceEq, String.reduceEq, Int.reduceLT, Int.reduceLE, Int.reduceToNat, Int.reduceAdd, Int.reduceMul, Int.reduceSub])
  have hle := chkRest_len s
  have hz : chkSize s = [] ↔ spanL hexC s = 0 := by
    have := spanL_le hexC s
    rw [← List.length_eq_zero_iff, chkSize, List.length_take]; omega
  refine ⟨fun h => by simp [chkVal, chkErr, h], fun h0 => ⟨fun _ => by omega, fun h => ?_, fun h1 h2 => ?_⟩⟩
  · have hb : chkBad s = true := by
      rw [hz] at h
      rcases h with h | h <;> simp [chkBad, h]
    simp [chkVal, chkErr, h0, hb]
  · have hb : chkBad s = false := by
      rw [hz] at h1
      simp [chkBad, h1, h2]
    simp [chkVal, chkErr, h0, hb]
def tb_specParse : List Blk → List AV → Option (List Blk × AV × Prop)
  | [], [.str s] => some ([], .tuple [.int .i64 (chkVal s), .int .i64 (chkErr s)], (s.length ≤ 999999))
  | _, _ => none
theorem tb_specParse_ok : ∀ E args E' res p, tb_specParse E args = some (E', res, p) → p → SpecE Try.prog 62 E args E' res := by
  intro E args E' res p h hp
  unfold tb_specParse at h
  split at h
  · simp only [Option.some.injEq, Prod.mk.injEq] at h
    obtain ⟨rfl, rfl, rfl⟩ := h
    exact (specParse _ hp)
  · cases h

def T_specLine : Tbl := fun g E args => (addT nilT 171 Go.Proofs.Try.Dig.tb_specHexText) g E args
theorem T_specLine_ok : TblOK Try.prog T_specLine := (addT_ok nilT_ok (by decide +kernel) Go.Proofs.Try.Dig.tb_specHexText_ok)
set_option maxRecDepth 100000 in
set_option maxHeartbeats 4000000 in
theorem specLine (n : Int) (hn : inR .i64 n) : SpecE Try.prog 65 [] [.int .i64 n] [] (.str (chkLine n)) := by
  refine specF0 (C := T_specLine) (wr := false) (D := fun _ => []) (U := fun _ => none) (res := [.str (chkLine n)]) Try.Ty.mixed T_specLine_ok Try.func65 (nA := 1) (by decide +kernel) rfl (fun _ => rfl) ?_
  simp only [Try.f65, bodyOf, rlOf]
  rw [W_V]
  simp (config := {maxSteps := 2000000}) only [T_specLine, Go.Proofs.Try.Dig.tb_specHexText, go_sem, go_sem, reduceIte, Nat.reduceEqDiff, Nat.reduceAdd, Nat.reduceMul, Nat.reduceSub, Nat.reduceBEq, Nat.reduceLT, Nat.reduceLeDiff, reduceCtorEq, Int.reduceNeg, Int.reduceEq, String.reduceEq, Int.reduceLT, Int.reduceLE, Int.reduceToNat, Int.reduceAdd, Int.reduceMul, Int.reduceSub, Try.Ty.g1, Try.underlying1, Try.underlying2, Try.Ty.s2, Try.Ty.b2, Try.Ty.a2, Try.Ty.z2, Try.underlying3, Try.Ty.s3, Try.Ty.b3, Try.Ty.a3, Try.Ty.z3, Try.underlying4, Try.Ty.s4, Try.Ty.b4, Try.Ty.a4, Try.Ty.z4, Try.underlying9, Try.Ty.s9, Try.Ty.b9, Try.Ty.a9, Try.Ty.z9, Try.Ty.g53, Try.underlying53, Try.Ty.g54, Try.underlying54, Try.Ty.g55, Try.underlying55, Try.Ty.g171, Try.underlying171]
  (try simp (config := {maxSteps := 2000000}) only [gimp, impB, isT, go_sem, reduceIte, Nat.reduceEqDiff, Nat.reduceAdd, Nat.reduceMul, Nat.reduceSub, Nat.reduceBEq, Nat.reduceLT, Nat.reduceLeDiff, reduceCtorEq, Int.reduceNeg, Int.reduceEq, String.reduceEq, Int.reduceLT, Int.reduceLE, Int.reduceToNat, Int.reduceAdd, Int.reduceMul, Int.reduceSub])
  have hl : (hexS n).length ≤ 70 := by
    have := digs_len 16 n.natAbs
    unfold hexS; split
    · simp
    · exact this
  simp only [inR] at hn
  refine ⟨fun h => by simp [chkLine, h], fun h => ⟨hn, by omega, by simp [chkLine, Int.not_lt.2 h]⟩⟩
def tb_specLine : List Blk → List AV → Option (List Blk × AV × Prop)
  | [], [.int .i64 n] => some ([], .str (chkLine n), (inR .i64 n))
  | _, _ => none
theorem tb_specLine_ok : ∀ E args E' res p, tb_specLine E args = some (E', res, p) → p → SpecE Try.prog 65 E args E' res := by
  intro E args E' res p h hp
  unfold tb_specLine at h
  split at h
  · simp only [Option.some.injEq, Prod.mk.injEq] at h
    obtain ⟨rfl, rfl, rfl⟩ := h
    exact (specLine _ hp)
  · cases h

def T_specPut : Tbl := fun g E args => nilT g E args
theorem T_specPut_ok : TblOK Try.prog T_specPut := nilT_ok
set_option maxRecDepth 100000 in
set_option maxHeartbeats 4000000 in
theorem specPut (l : List Int) (k : Int) (hl : l.length ≤ 2000000) : SpecE Try.prog 175 [.cells 1 false .nils [.ref 1 0 l.length l.length], .cells 1 false (.int .i64 0) (l.map (AV.int .i64))] [.int .i64 k, .ptr 0 0 0 1] [.cells 1 false .nils [.ref 1 0 (l.length + 1) (l.length + 1)], .cells 1 false (.int .i64 0) ((l ++ [k]).map (AV.int .i64))] (.tuple []) := by
  refine specFE (C := T_specPut) (wr := false) (D := fun _ => []) (U := fun _ => none) (E := [.cells 1 false .nils [.ref 1 0 l.length l.length], .cells 1 false (.int .i64 0) (l.map (AV.int .i64))]) (E' := [.cells 1 false .nils [.ref 1 0 (l.length + 1) (l.length + 1)], .cells 1 false (.int .i64 0) ((l ++ [k]).map (AV.int .i64))]) (res := []) [] Try.Ty.mixed T_specPut_ok Try.func175 (nE := 2) (nA := 2) (by decide +kernel) rfl rfl ?_
  simp only [Try.f175, bodyOf, rlOf]
  rw [W_V]
  simp (config := {maxSteps := 2000000}) only [T_specPut, go_sem, go_sem, reduceIte, Nat.reduceEqDiff, Nat.reduceAdd, Nat.reduceMul, Nat.reduceSub, Nat.reduceBEq, Nat.reduceLT, Nat.reduceLeDiff, reduceCtorEq, Int.reduceNeg, Int.reduceEq, String.reduceEq, Int.reduceLT, Int.reduceLE, Int.reduceToNat, Int.reduceAdd, Int.reduceMul, Int.reduceSub, Try.Ty.g1, Try.underlying1, Try.underlying2, Try.Ty.s2, Try.Ty.b2, Try.Ty.a2, Try.Ty.z2, Try.underlying3, Try.Ty.s3, Try.Ty.b3, Try.Ty.a3, Try.Ty.z3, Try.Ty.g57, Try.underlying57, Try.Ty.s57, Try.Ty.b57, Try.Ty.a57, Try.Ty.z57, Try.Ty.g62, Try.underlying62, Try.Ty.g150, Try.underlying150]
  (try simp (config := {maxSteps := 2000000}) only [gimp, impB, isT, go_sem, reduceIte, Nat.reduceEqDiff, Nat.reduceAdd, Nat.reduceMul, Nat.reduceSub, Nat.reduceBEq, Nat.reduceLT, Nat.reduceLeDiff, reduceCtorEq, Int.reduceNeg, Int.reduceEq, String.reduceEq, Int.reduceLT, Int.reduceLE, Int.reduceToNat, Int.reduceAdd, Int.reduceMul, Int.reduceSub])
  exact ⟨by omega, by simp, by simp⟩

def tb_specPut : List Blk → List AV → Option (List Blk × AV × Prop)
  | [.cells 1 false z0 [.ref 1 0 n1 n2], .cells 1 false z1 c], [.int .i64 k, .ptr 0 0 0 1] =>
    some ([.cells 1 false z0 [.ref 1 0 (c.length + 1) (c.length + 1)], .cells 1 false z1 (c ++ [.int .i64 k])], .tuple [],
      z0 = .nils ∧ z1 = .int .i64 0 ∧ n1 = c.length ∧ n2 = c.length ∧ (c.map toInt).map (.int .i64) = c ∧ c.length ≤ 2000000)
  | _, _ => none
theorem tb_specPut_ok : ∀ E args E' res q, tb_specPut E args = some (E', res, q) → q → SpecE Try.prog 175 E args E' res := by
  intro E args E' res q h hq
  unfold tb_specPut at h
  split at h
  · rename_i z0 n1 n2 z1 c k
    simp only [Option.some.injEq, Prod.mk.injEq] at h
    obtain ⟨rfl, rfl, rfl⟩ := h
    obtain ⟨rfl, rfl, rfl, rfl, h1, h2⟩ := hq
    have := specPut (c.map toInt) k (by rw [List.length_map]; exact h2)
    rw [List.length_map, List.map_append, h1] at this
    exact this
  · cases h

def T_specSizes : Tbl := fun g E args => (addT nilT 175 Go.Proofs.Try.Chk.tb_specPut) g E args
theorem T_specSizes_ok : TblOK Try.prog T_specSizes := (addT_ok nilT_ok (by decide +kernel) Go.Proofs.Try.Chk.tb_specPut_ok)
set_option maxRecDepth 100000 in
set_option maxHeartbeats 4000000 in
theorem specSizes (n e : Int) (hn : inR .i64 n) (he : inR .i64 e) : SpecE Try.prog 68 [] [.int .i64 n, .int .i64 e] [] (enc_ints (chkSizes n e)) := by
  refine specF0 (C := T_specSizes) (wr := false) (D := fun _ => []) (U := fun _ => none) (res := [enc_ints (chkSizes n e)]) Try.Ty.mixed T_specSizes_ok Try.func68 (nA := 2) (by decide +kernel) rfl (fun _ => rfl) ?_
  simp only [Try.f68, bodyOf, rlOf]
  rw [W_V]
  simp (config := {maxSteps := 2000000}) only [T_specSizes, Go.Proofs.Try.Chk.tb_specPut, go_sem, go_sem, reduceIte, Nat.reduceEqDiff, Nat.reduceAdd, Nat.reduceMul, Nat.reduceSub, Nat.reduceBEq, Nat.reduceLT, Nat.reduceLeDiff, reduceCtorEq, Int.reduceNeg, Int.reduceEq, String.reduceEq, Int.reduceLT, Int.reduceLE, Int.reduceToNat, Int.reduceAdd, Int.reduceMul, Int.reduceSub, Try.Ty.g1, Try.underlying1, Try.underlying2, Try.Ty.s2, Try.Ty.b2, Try.Ty.a2, Try.Ty.z2, Try.underlying3, Try.Ty.s3, Try.Ty.b3, Try.Ty.a3, Try.Ty.z3, Try.underlying4, Try.Ty.s4, Try.Ty.b4, Try.Ty.a4, Try.Ty.z4, Try.underlying5, Try.Ty.s5, Try.Ty.b5, Try.Ty.a5, Try.Ty.z5, Try.underlying6, Try.Ty.s6, Try.Ty.b6, Try.Ty.a6, Try.Ty.z6, Try.underlying9, Try.Ty.s9, Try.Ty.b9, Try.Ty.a9, Try.Ty.z9, Try.Ty.g57, Try.underlying57, Try.Ty.s57, Try.Ty.b57, Try.Ty.a57, Try.Ty.z57, Try.Ty.g58, Try.underlying58, Try.Ty.g64, Try.underlying64, Try.underlying66, Try.Ty.s66, Try.Ty.b66, Try.Ty.a66, Try.Ty.g66, Try.Ty.h66, Try.Ty.z66, Try.underlying68, Try.Ty.s68, Try.Ty.b68, Try.Ty.a68, Try.Ty.g68, Try.Ty.h68, Try.Ty.z68, Try.Ty.g150, Try.underlying150, Try.Ty.g175, Try.underlying175]
  (try simp (config := {maxSteps := 2000000}) only [gimp, impB, isT, go_sem, reduceIte, Nat.reduceEqDiff, Nat.reduceAdd, Nat.reduceMul, Nat.reduceSub, Nat.reduceBEq, Nat.reduceLT, Nat.reduceLeDiff, reduceCtorEq, Int.reduceNeg, Int.reduceEq, String.reduceEq, Int.reduceLT, Int.reduceLE, Int.reduceToNat, Int.reduceAdd, Int.reduceMul, Int.reduceSub])
  simp only [inR] at hn he
  refine ⟨fun h => ?_, fun h1 h2 h3 => ?_⟩
  · have : chkSizes n e = [] := by unfold chkSizes; rw [if_pos (by omega)]
    rw [this]; rfl
  have hc : chkSizes n e = szs e.toNat n.toNat := by unfold chkSizes; rw [if_neg (by omega)]
  refine VL_inv (X := Nat × List Int) (fun y => ⟨[(0, .int .i64 y.1), (1, .int .i64 e), (5, .ptr 96 0 0 1), (6, .clo 175 0 [.ptr 96 0 0 1])], [(96, .cells 1 false .nils [.ref 5000 0 y.2.length y.2.length]), (5000, .cells 1 false (.int .i64 0) (y.2.map (AV.int .i64)))]⟩)
    (fun y => 1 ≤ y.1 ∧ y.1 + y.2.length ≤ n.toNat ∧ y.2 ++ szs e.toNat y.1 = szs e.toNat n.toNat) (fun y => y.1) (n.toNat, []) ?_ ?_ ?_
  · simp only [go_sem, go_sem, reduceIte, Nat.reduceEqDiff, Nat.reduceAdd, Nat.reduceMul, Nat.reduceSub, Nat.reduceBEq, Nat.reduceLT, Nat.reduceLeDiff, reduceCtorEq, Int.reduceNeg, Int.reduceEq, String.reduceEq, Int.reduceLT, Int.reduceLE, Int.reduceToNat, Int.reduceAdd, Int.reduceMul, Int.reduceSub]
    try omega
  · exact ⟨by simp only; omega, by simp, by simp⟩
  rintro ⟨m, out⟩ ⟨i1, i2, i3⟩
  simp only at i1 i2 i3
  simp (config := {maxSteps := 2000000}) only [T_specSizes, Go.Proofs.Try.Chk.tb_specPut, go_sem, go_sem, reduceIte, Nat.reduceEqDiff, Nat.reduceAdd, Nat.reduceMul, Nat.reduceSub, Nat.reduceBEq, Nat.reduceLT, Nat.reduceLeDiff, reduceCtorEq, Int.reduceNeg, Int.reduceEq, String.reduceEq, Int.reduceLT, Int.reduceLE, Int.reduceToNat, Int.reduceAdd, Int.reduceMul, Int.reduceSub, Try.Ty.g1, Try.underlying1, Try.underlying2, Try.Ty.s2, Try.Ty.b2, Try.Ty.a2, Try.Ty.z2, Try.underlying3, Try.Ty.s3, Try.Ty.b3, Try.Ty.a3, Try.Ty.z3, Try.underlying4, Try.Ty.s4, Try.Ty.b4, Try.Ty.a4, Try.Ty.z4, Try.underlying5, Try.Ty.s5, Try.Ty.b5, Try.Ty.a5, Try.Ty.z5, Try.underlying6, Try.Ty.s6, Try.Ty.b6, Try.Ty.a6, Try.Ty.z6, Try.underlying9, Try.Ty.s9, Try.Ty.b9, Try.Ty.a9, Try.Ty.z9, Try.Ty.g57, Try.underlying57, Try.Ty.s57, Try.Ty.b57, Try.Ty.a57, Try.Ty.z57, Try.Ty.g58, Try.underlying58, Try.Ty.g64, Try.underlying64, Try.underlying66, Try.Ty.s66, Try.Ty.b66, Try.Ty.a66, Try.Ty.g66, Try.Ty.h66, Try.Ty.z66, Try.underlying68, Try.Ty.s68, Try.Ty.b68, Try.Ty.a68, Try.Ty.g68, Try.Ty.h68, Try.Ty.z68, Try.Ty.g150, Try.underlying150, Try.Ty.g175, Try.underlying175]
  (try simp (config := {maxSteps := 2000000}) only [gimp, impB, isT, go_sem, reduceIte, Nat.reduceEqDiff, Nat.reduceAdd, Nat.reduceMul, Nat.reduceSub, Nat.reduceBEq, Nat.reduceLT, Nat.reduceLeDiff, reduceCtorEq, Int.reduceNeg, Int.reduceEq, String.reduceEq, Int.reduceLT, Int.reduceLE, Int.reduceToNat, Int.reduceAdd, Int.reduceMul, Int.reduceSub])
  have hren : ∀ (σ : Nat → Nat) (k : Int), List.map (ren σ) (List.map (AV.int .i64) out ++ [AV.int .i64 k]) = List.map (AV.int .i64) (out ++ [k]) := fun σ k => by simp [ren, List.map_map, Function.comp_def]
  refine ⟨fun hlt => ⟨by omega, by omega, (m - e.toNat, out ++ [e]), ⟨by simp only; omega, by simp, hren _ _⟩, ⟨by simp only; omega, by simp only [List.length_append, List.length_cons, List.length_nil]; omega, ?_⟩, by simp only; omega⟩, fun hge => ⟨by omega, ?_, by simp, by rw [hren]; exact pureEl_int _⟩⟩
  · rw [szs_step (by omega) (by omega), show ((e.toNat : Nat) : Int) = e by omega] at i3
    simp only [List.append_assoc, List.cons_append, List.nil_append]
    exact i3
  · rw [List.take_of_length_le (by simp), hren, hc, ← i3, szs_last (by omega)]
def tb_specSizes : List Blk → List AV → Option (List Blk × AV × Prop)
  | [], [.int .i64 n, .int .i64 e] => some ([], enc_ints (chkSizes n e), (inR .i64 n) ∧ (inR .i64 e))
  | _, _ => none
theorem tb_specSizes_ok : ∀ E args E' res p, tb_specSizes E args = some (E', res, p) → p → SpecE Try.prog 68 E args E' res := by
  intro E args E' res p h hp
  unfold tb_specSizes at h
  split at h
  · simp only [Option.some.injEq, Prod.mk.injEq] at h
    obtain ⟨rfl, rfl, rfl⟩ := h
    exact (specSizes _ _ hp.1 hp.2)
  · cases h
end Go.Proofs.Try.Chk
