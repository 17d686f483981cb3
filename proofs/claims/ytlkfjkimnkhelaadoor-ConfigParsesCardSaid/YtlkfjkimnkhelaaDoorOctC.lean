/- octet: the walks of small letters. No condition. -/
import Derived.Test.YtlkfjkimnkhelaaDoorOctB
set_option linter.unusedVariables false
set_option linter.unusedSimpArgs false
namespace Go.Mdl
open Go Go.Abs
theorem lowerB_nat (c : UInt8) : (lowerB c).toNat = if 65 ≤ c.toNat ∧ c.toNat ≤ 90 then c.toNat + 32 else c.toNat := by
  have := c.toNat_lt
  unfold lowerB
  split
  · rw [UInt8.toNat_add]
    show (c.toNat + 32) % 256 = _
    omega
  · rfl
/-- So many octets have small letters by now. -/
def mixL (s : List UInt8) (x : Nat) : List UInt8 := lowerS (s.take x) ++ s.drop x
theorem mixL_len {s : List UInt8} {x : Nat} (h : x ≤ s.length) : (mixL s x).length = s.length := by simp [mixL, lowerS]; omega
theorem mixL_get {s : List UInt8} {x : Nat} (h : x ≤ s.length) : (mixL s x).getD x 0 = s.getD x 0 := by
  simp only [mixL, List.getD_eq_getElem?_getD]
  rw [List.getElem?_append_right (by simp [lowerS]; omega)]
  simp [lowerS, Nat.min_eq_left h]
theorem mixL_set {s : List UInt8} {x : Nat} (h : x < s.length) : (mixL s x).set x (lowerB (s.getD x 0)) = mixL s (x + 1) := by
  have e : (lowerS (s.take x)).length = x := by simp [lowerS]; omega
  simp only [mixL]
  rw [List.set_append_right _ _ (by omega), e, Nat.sub_self, List.drop_eq_getElem_cons h, List.set_cons_zero, take_succ_getD 0 h]
  simp only [lowerS, List.map_append, List.map_cons, List.map_nil, List.append_assoc, List.cons_append, List.nil_append]
theorem mixL_0 (s : List UInt8) : mixL s 0 = s := by simp [mixL, lowerS]
theorem mixL_all (s : List UInt8) : mixL s s.length = lowerS s := by simp [mixL]
theorem lowerS_len (s : List UInt8) : (lowerS s).length = s.length := by simp [lowerS]
theorem lowerS_take {s : List UInt8} {x : Nat} (h : x < s.length) : lowerS (s.take (x + 1)) = lowerS (s.take x) ++ [lowerB (s.getD x 0)] := by
  rw [take_succ_getD 0 h]; simp [lowerS]
theorem lowerS_getD {s : List UInt8} {x : Nat} (h : x < s.length) : (lowerS s).getD x 0 = lowerB (s.getD x 0) := by
  simp [lowerS, List.getD_eq_getElem?_getD, h]
def foldS (a b : List UInt8) : Bool := decide (lowerS a = lowerS b)
end Go.Mdl
namespace Go.Proofs.Tryd.Oct
open Go Go.Abs Go.Proofs Go.Mdl

def T_specLow1 : Tbl := fun g E args => nilT g E args
theorem T_specLow1_ok : TblOK Tryd.prog T_specLow1 := nilT_ok
set_option maxRecDepth 100000 in
set_option maxHeartbeats 4000000 in
theorem specLow1 (c : UInt8) : SpecE Tryd.prog 76 [] [enc_u8 c] [] (enc_u8 (lowerB c)) := by
  refine specF0 (C := T_specLow1) (wr := false) (D := fun _ => []) (U := fun _ => none) (res := [enc_u8 (lowerB c)]) Tryd.Ty.mixed T_specLow1_ok Tryd.func76 (nA := 1) (by decide +kernel) rfl (fun _ => rfl) ?_
  simp only [Tryd.f76, bodyOf, rlOf]
  rw [W_V]
  simp (config := {maxSteps := 2000000}) only [T_specLow1, go_sem, seval]
  (try simp (config := {maxSteps := 2000000}) only [gimp, impB, isT, go_sem, seval])
  have := c.toNat_lt
  simp only [lowerB_nat]
  (try simp only [Bool.and_eq_false_iff, Bool.or_eq_false_iff, Bool.and_eq_true, Bool.or_eq_true, decide_eq_false_iff_not, decide_eq_true_eq] at *)
  (repeat' (first | apply And.intro | intro _))
  all_goals (first | omega | ((repeat' split) <;> (first | omega | rfl | skip)))
  · unfold lowerB; rw [if_neg (by omega)]
def tb_specLow1 : List Blk → List AV → Option (List Blk × AV × Prop)
  | [], [a0] => some ([], enc_u8 (lowerB (dec_u8 a0)), argOK a0 (enc_u8 (dec_u8 a0)))
  | _, _ => none
theorem tb_specLow1_ok : ∀ E args E' res p, tb_specLow1 E args = some (E', res, p) → p → SpecE Tryd.prog 76 E args E' res := by
  intro E args E' res p h hp
  unfold tb_specLow1 at h
  split at h
  · simp only [Option.some.injEq, Prod.mk.injEq] at h
    obtain ⟨rfl, rfl, rfl⟩ := h
    exact SpecE.args (specLow1 _) (.cons hp .nil)
  · cases h

def T_specLower : Tbl := fun g E args => (addT nilT 76 Go.Proofs.Tryd.Oct.tb_specLow1) g E args
theorem T_specLower_ok : TblOK Tryd.prog T_specLower := (addT_ok nilT_ok (by decide +kernel) Go.Proofs.Tryd.Oct.tb_specLow1_ok)
set_option maxRecDepth 100000 in
set_option maxHeartbeats 4000000 in
theorem specLower (s : List UInt8) (hs : s.length ≤ maxLen) : SpecE Tryd.prog 98 [] [.str s] [] (.str (lowerS s)) := by
  refine specF0 (C := T_specLower) (wr := false) (D := fun _ => []) (U := fun _ => none) (res := [.str (lowerS s)]) Tryd.Ty.mixed T_specLower_ok Tryd.func98 (nA := 1) (by decide +kernel) rfl (fun _ => rfl) ?_
  simp only [Tryd.f98, bodyOf, rlOf]
  rw [W_V]
  simp (config := {maxSteps := 2000000}) only [T_specLower, Go.Proofs.Tryd.Oct.tb_specLow1, go_sem, seval]
  (try simp (config := {maxSteps := 2000000}) only [gimp, impB, isT, go_sem, seval])
  have hm : s.length ≤ 9223372036854775807 := hs
  refine ⟨hm, VL_inv (X := Nat) (fun x => ⟨[(3, .ref 128 0 s.length s.length), (8, .ref 128 0 s.length s.length), (9, .int .i64 s.length), (10, .int .i64 x)], [(128, .cells 1 false (.int .u8 0) ((mixL s x).map byteAV))]⟩) (fun x => x ≤ s.length) (fun x => s.length - x) 0 ?_ ?_ ?_⟩
  · simp only [go_sem, go_sem, seval, mixL_0]
    try rfl
  · exact Nat.zero_le _
  rintro x hx
  simp (config := {maxSteps := 2000000}) only [T_specLower, Go.Proofs.Tryd.Oct.tb_specLow1, go_sem, seval]
  (try simp (config := {maxSteps := 2000000}) only [gimp, impB, isT, go_sem, seval])
  have hl := mixL_len hx
  refine ⟨fun h => ?_, fun h => ?_⟩
  · have e := mixL_set (s := s) (x := x) (by omega)
    have g := mixL_get hx
    rw [Nat.zero_add]
    refine ⟨⟨by omega, by omega, by omega⟩, by omega, ⟨by omega, by omega, by omega⟩, ⟨by omega, by omega⟩, by omega, x + 1, ⟨by omega, ?_⟩, by omega, by omega⟩
    rw [g, ← e, List.map_set]; rfl
  · have : x = s.length := by omega
    subst this
    rw [mixL_all]
    refine ⟨by simp [lowerS_len], List.take_of_length_le (by simp [lowerS_len])⟩
def tb_specLower : List Blk → List AV → Option (List Blk × AV × Prop)
  | [], [.str s] => some ([], .str (lowerS s), (s.length ≤ maxLen))
  | _, _ => none
theorem tb_specLower_ok : ∀ E args E' res p, tb_specLower E args = some (E', res, p) → p → SpecE Tryd.prog 98 E args E' res := by
  intro E args E' res p h hp
  unfold tb_specLower at h
  split at h
  · simp only [Option.some.injEq, Prod.mk.injEq] at h
    obtain ⟨rfl, rfl, rfl⟩ := h
    exact (specLower _ hp)
  · cases h

def T_specLowerR : Tbl := fun g E args => nilT g E args
theorem T_specLowerR_ok : TblOK Tryd.prog T_specLowerR := nilT_ok
set_option maxRecDepth 100000 in
set_option maxHeartbeats 4000000 in
theorem specLowerR (s : List UInt8) (hs : s.length ≤ 1000000) : SpecE Tryd.prog 33 [] [.str s] [] (.str (lowerS s)) := by
  refine specF0 (C := T_specLowerR) (wr := false) (D := fun _ => []) (U := fun _ => none) (res := [.str (lowerS s)]) Tryd.Ty.mixed T_specLowerR_ok Tryd.func33 (nA := 1) (by decide +kernel) rfl (fun _ => rfl) ?_
  simp only [Tryd.f33, bodyOf, rlOf]
  rw [W_V]
  simp (config := {maxSteps := 2000000}) only [T_specLowerR, go_sem, seval]
  (try simp (config := {maxSteps := 2000000}) only [gimp, impB, isT, go_sem, seval])
  refine VL_inv (X := Nat) (fun x => ⟨[(0, .str s), (3, .ref 112 0 x x), (4, .int .i64 x)], [(112, .cells 1 false (.int .u8 0) ((lowerS (s.take x)).map byteAV))]⟩) (fun x => x ≤ s.length) (fun x => s.length - x) 0 ?_ ?_ ?_
  · simp only [go_sem, go_sem, seval]
    try rfl
  · exact Nat.zero_le _
  rintro x hx
  simp (config := {maxSteps := 2000000}) only [T_specLowerR, go_sem, seval]
  (try simp (config := {maxSteps := 2000000}) only [gimp, impB, isT, go_sem, seval])
  have hl : (lowerS (s.take x)).length = x := by simp [lowerS]; omega
  refine ⟨fun h => ?_, fun h => ?_⟩
  · have e := lowerS_take (s := s) (x := x) (by omega)
    have e2 : ∀ n : Int, n = ((lowerB (s.getD x 0)).toNat : Int) → List.map byteAV (lowerS (List.take x s)) ++ [AV.int .u8 n] = List.map byteAV (lowerS (List.take (x + 1) s)) := fun n hn => by
      rw [e, hn]; simp [byteAV]
    have := lowerB_nat (s.getD x 0)
    have := (s.getD x 0).toNat_lt
    refine ⟨⟨by omega, by omega⟩, fun h1 h2 => ⟨by omega, ⟨by omega, by omega, by omega⟩, by omega, x + 1, ⟨⟨rfl, by omega⟩, e2 _ ?_⟩, by omega, by omega⟩, fun h1 => ⟨⟨by omega, by omega, by omega⟩, by omega, x + 1, ⟨⟨rfl, by omega⟩, e2 _ ?_⟩, by omega, by omega⟩⟩
    · simp only [lowerB_nat]; rw [if_pos ⟨by omega, by omega⟩]; omega
    · simp only [Bool.and_eq_false_iff, decide_eq_false_iff_not] at h1
      simp only [lowerB_nat]; rw [if_neg (by omega)]
  · have : x = s.length := by omega
    subst this
    rw [List.take_length] at hl ⊢
    exact ⟨hl.symm, List.take_of_length_le (by omega)⟩
def tb_specLowerR : List Blk → List AV → Option (List Blk × AV × Prop)
  | [], [.str s] => some ([], .str (lowerS s), (s.length ≤ 1000000))
  | _, _ => none
theorem tb_specLowerR_ok : ∀ E args E' res p, tb_specLowerR E args = some (E', res, p) → p → SpecE Tryd.prog 33 E args E' res := by
  intro E args E' res p h hp
  unfold tb_specLowerR at h
  split at h
  · simp only [Option.some.injEq, Prod.mk.injEq] at h
    obtain ⟨rfl, rfl, rfl⟩ := h
    exact (specLowerR _ hp)
  · cases h

def T_specFold : Tbl := fun g E args => (addT nilT 76 Go.Proofs.Tryd.Oct.tb_specLow1) g E args
theorem T_specFold_ok : TblOK Tryd.prog T_specFold := (addT_ok nilT_ok (by decide +kernel) Go.Proofs.Tryd.Oct.tb_specLow1_ok)
set_option maxRecDepth 100000 in
set_option maxHeartbeats 4000000 in
theorem specFold (a b : List UInt8) (hs : a.length ≤ maxLen) : SpecE Tryd.prog 50 [] [.str a, .str b] [] (.bool (foldS a b)) := by
  refine specF0 (C := T_specFold) (wr := false) (D := fun _ => []) (U := fun _ => none) (res := [.bool (foldS a b)]) Tryd.Ty.mixed T_specFold_ok Tryd.func50 (nA := 2) (by decide +kernel) rfl (fun _ => rfl) ?_
  simp only [Tryd.f50, bodyOf, rlOf]
  rw [W_V]
  simp (config := {maxSteps := 2000000}) only [T_specFold, Go.Proofs.Tryd.Oct.tb_specLow1, go_sem, seval]
  (try simp (config := {maxSteps := 2000000}) only [gimp, impB, isT, go_sem, seval])
  refine ⟨fun h => ?_, fun h => ?_⟩
  · have : lowerS a ≠ lowerS b := fun e => h (by have := congrArg List.length e; simp only [lowerS_len] at this; omega)
    simp [foldS, this]
  have hl : a.length = b.length := by omega
  have hm : a.length ≤ 9223372036854775807 := hs
  refine VL_inv (X := Nat) (fun x => ⟨[(0, .str a), (1, .str b), (12, .int .i64 a.length), (13, .int .i64 x)], []⟩) (fun x => x ≤ a.length ∧ (lowerS a).take x = (lowerS b).take x) (fun x => a.length - x) 0 ?_ ?_ ?_
  · simp only [go_sem, go_sem, seval]
    try rfl
  · exact ⟨Nat.zero_le _, by simp⟩
  rintro x ⟨hx, hn⟩
  simp (config := {maxSteps := 2000000}) only [T_specFold, Go.Proofs.Tryd.Oct.tb_specLow1, go_sem, seval]
  (try simp (config := {maxSteps := 2000000}) only [gimp, impB, isT, go_sem, seval])
  refine ⟨fun hlt => ?_, fun hge => ?_⟩
  · have g1 := lowerS_getD (s := a) (x := x) (by omega)
    have g2 := lowerS_getD (s := b) (x := x) (by omega)
    obtain ⟨k1, k2⟩ := same_step (a := lowerS a) (b := lowerS b) (x := x) 0 (by simp only [lowerS_len]; omega) (by rw [lowerS_len]; omega) hn
    rw [g1, g2] at k1 k2
    refine ⟨by omega, by omega, fun hne => ?_, fun he => ⟨by omega, x + 1, by omega, ⟨by omega, k1 he⟩, by omega⟩⟩
    simp [foldS, k2 hne]
  · have : x = a.length := by omega
    subst this
    rw [List.take_of_length_le (by simp [lowerS_len]), List.take_of_length_le (by simp [lowerS_len]; omega)] at hn
    simp [foldS, hn]
def tb_specFold : List Blk → List AV → Option (List Blk × AV × Prop)
  | [], [.str a, .str b] => some ([], .bool (foldS a b), (a.length ≤ maxLen))
  | _, _ => none
theorem tb_specFold_ok : ∀ E args E' res p, tb_specFold E args = some (E', res, p) → p → SpecE Tryd.prog 50 E args E' res := by
  intro E args E' res p h hp
  unfold tb_specFold at h
  split at h
  · simp only [Option.some.injEq, Prod.mk.injEq] at h
    obtain ⟨rfl, rfl, rfl⟩ := h
    exact (specFold _ _ hp)
  · cases h
end Go.Proofs.Tryd.Oct
