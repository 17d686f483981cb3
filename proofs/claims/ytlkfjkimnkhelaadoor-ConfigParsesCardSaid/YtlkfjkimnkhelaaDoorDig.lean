/- digits: the walks. No condition beyond those that a machine's numbers bring. -/
import Derived.Test.YtlkfjkimnkhelaaDoorDigM
import Derived.Test.YtlkfjkimnkhelaaDoorTyp
set_option linter.unusedVariables false
set_option linter.unusedSimpArgs false
namespace Go.Proofs.Tryd.Dig
open Go Go.Abs Go.Proofs Go.Mdl

def T_specDigit : Tbl := fun g E args => nilT g E args
theorem T_specDigit_ok : TblOK Tryd.prog T_specDigit := nilT_ok
set_option maxRecDepth 100000 in
set_option maxHeartbeats 4000000 in
theorem specDigit (r : Int) : SpecE Tryd.prog 57 [] [.int .i32 r] [] (.int .i64 (digI r)) := by
  refine specF0 (C := T_specDigit) (wr := false) (D := fun _ => []) (U := fun _ => none) (res := [.int .i64 (digI r)]) Tryd.Ty.mixed T_specDigit_ok Tryd.func57 (nA := 1) (by decide +kernel) rfl (fun _ => rfl) ?_
  simp only [Tryd.f57, bodyOf, rlOf]
  rw [W_V]
  simp (config := {maxSteps := 2000000}) only [T_specDigit, go_sem, seval]
  (try simp (config := {maxSteps := 2000000}) only [gimp, impB, isT, go_sem, seval])
  simp only [digI]
  (try simp only [Bool.and_eq_false_iff, Bool.or_eq_false_iff, Bool.and_eq_true, Bool.or_eq_true, decide_eq_false_iff_not, decide_eq_true_eq] at *)
  (repeat' (first | apply And.intro | intro _))
  all_goals (first | omega | ((repeat' split) <;> (first | omega | rfl | skip)))
def tb_specDigit : List Blk → List AV → Option (List Blk × AV × Prop)
  | [], [.int .i32 r] => some ([], .int .i64 (digI r), True)
  | _, _ => none
theorem tb_specDigit_ok : ∀ E args E' res p, tb_specDigit E args = some (E', res, p) → p → SpecE Tryd.prog 57 E args E' res := by
  intro E args E' res p h hp
  unfold tb_specDigit at h
  split at h
  · simp only [Option.some.injEq, Prod.mk.injEq] at h
    obtain ⟨rfl, rfl, rfl⟩ := h
    exact (specDigit _)
  · cases h

def T_specValueR : Tbl := fun g E args => nilT g E args
theorem T_specValueR_ok : TblOK Tryd.prog T_specValueR := nilT_ok
set_option maxRecDepth 100000 in
set_option maxHeartbeats 4000000 in
theorem specValueR (c : UInt8) : SpecE Tryd.prog 40 [] [enc_u8 c] [] (.int .i64 (refDig c)) := by
  refine specF0 (C := T_specValueR) (wr := false) (D := fun _ => []) (U := fun _ => none) (res := [.int .i64 (refDig c)]) Tryd.Ty.mixed T_specValueR_ok Tryd.func40 (nA := 1) (by decide +kernel) rfl (fun _ => rfl) ?_
  simp only [Tryd.f40, bodyOf, rlOf]
  rw [W_V]
  simp (config := {maxSteps := 2000000}) only [T_specValueR, go_sem, seval]
  (try simp (config := {maxSteps := 2000000}) only [gimp, impB, isT, go_sem, seval])
  have hc := c.toNat_lt
  simp only [refDig, digB, digI]
  (try simp only [Bool.and_eq_false_iff, Bool.or_eq_false_iff, Bool.and_eq_true, Bool.or_eq_true, decide_eq_false_iff_not, decide_eq_true_eq] at *)
  (repeat' (first | apply And.intro | intro _))
  all_goals (first | omega | ((repeat' split) <;> (first | omega | rfl | skip)))
def tb_specValueR : List Blk → List AV → Option (List Blk × AV × Prop)
  | [], [a0] => some ([], .int .i64 (refDig (dec_u8 a0)), argOK a0 (enc_u8 (dec_u8 a0)))
  | _, _ => none
theorem tb_specValueR_ok : ∀ E args E' res p, tb_specValueR E args = some (E', res, p) → p → SpecE Tryd.prog 40 E args E' res := by
  intro E args E' res p h hp
  unfold tb_specValueR at h
  split at h
  · simp only [Option.some.injEq, Prod.mk.injEq] at h
    obtain ⟨rfl, rfl, rfl⟩ := h
    exact SpecE.args (specValueR _) (.cons hp .nil)
  · cases h

def T_specNumber : Tbl := fun g E args => (addT nilT 57 Go.Proofs.Tryd.Dig.tb_specDigit) g E args
theorem T_specNumber_ok : TblOK Tryd.prog T_specNumber := (addT_ok nilT_ok (by decide +kernel) Go.Proofs.Tryd.Dig.tb_specDigit_ok)
set_option maxRecDepth 100000 in
set_option maxHeartbeats 4000000 in
theorem specNumber (s : List UInt8) (b most : Int) (hb : b = 10 ∨ b = 16) (hm : most ≤ 9223372036854775807) : SpecE Tryd.prog 36 [] [.str s, .int .i64 b, .int .i64 most] [] (.tuple [.int .i64 (numVal b most s), .int .i64 (numErr b most s)]) := by
  refine specF0 (C := T_specNumber) (wr := false) (D := fun _ => []) (U := fun _ => none) (res := [.int .i64 (numVal b most s), .int .i64 (numErr b most s)]) Tryd.Ty.mixed T_specNumber_ok Tryd.func36 (nA := 3) (by decide +kernel) rfl (fun _ => rfl) ?_
  simp only [Tryd.f36, bodyOf, rlOf]
  rw [W_V]
  simp (config := {maxSteps := 2000000}) only [T_specNumber, Go.Proofs.Tryd.Dig.tb_specDigit, go_sem, seval]
  (try simp (config := {maxSteps := 2000000}) only [gimp, impB, isT, go_sem, seval])
  refine ⟨fun h => by simp [numVal, numErr, h], fun h0 => ?_⟩
  refine VL_inv (X := Nat × Int × Bool) (fun x => ⟨[(0, .str s), (1, .int .i64 b), (2, .int .i64 most), (8, .int .i64 x.2.1), (9, .bool x.2.2), (16, .it 272)], [(272, .iter s x.1)]⟩)
    (fun x => x.1 ≤ s.length ∧ (s.take x.1).all (isDig b) = true ∧ (x.2.2 = true → most < numV b (s.take x.1)) ∧ (x.2.2 = false → x.2.1 = numV b (s.take x.1) ∧ (x.2.1 ≤ most ∨ x.1 = 0)))
    (fun x => s.length - x.1) (0, 0, false) ?_ ?_ ?_
  · simp only [go_sem, go_sem, seval]
    try rfl
  · exact ⟨Nat.zero_le _, by simp, by simp, fun _ => ⟨by simp [numV], .inr rfl⟩⟩
  rintro ⟨x, n, over⟩ ⟨hx, hd, ho, hn⟩
  simp only at hx hd ho hn
  simp (config := {maxSteps := 2000000}) only [T_specNumber, Go.Proofs.Tryd.Dig.tb_specDigit, go_sem, seval]
  (try simp (config := {maxSteps := 2000000}) only [gimp, impB, isT, go_sem, seval])
  have r1 := fun hlt : x < s.length => (dig_rune hlt).2.1
  have r2 := fun hlt : x < s.length => (dig_rune hlt).2.2
  refine ⟨fun hlt => ⟨hlt, fun hbad => ?_, fun h1 h2 => ?_⟩, fun hge => ?_⟩
  · rw [r1 hlt] at hbad
    have := num_bad (b := b) (most := most) hlt (by rw [← Bool.not_eq_true, isDig_iff]; omega)
    exact ⟨this.2.symm, this.1.symm⟩
  · rw [r2 hlt h1, if_pos hlt]
    rw [r1 hlt] at h1 h2 ⊢
    have hdig : isDig b (s.getD x 0) = true := (isDig_iff _ _).2 ⟨h1, h2⟩
    have htk := numV_take_succ b hlt
    have hall := (all_step hlt hd).1 hdig
    have hb1 : (1 : Int) ≤ b := by omega
    have hnn := numV_nonneg hb1 _ hd
    have hmono := numV_mono hb1 hd (t := [s.getD x 0]) (by simp only [List.all_cons, List.all_nil, Bool.and_true]; exact hdig)
    rw [← take_succ_getD 0 hlt] at hmono
    generalize digB (s.getD x 0) = d at *
    have ov := fun h => over_step (most := most) (n := n) (d := d) hb h h1
    have hz : x = 0 → n = 0 ∨ over = true := fun e => by
      cases over with
      | true => exact .inr rfl
      | false => left; rw [(hn rfl).1, e]; rfl
    refine ⟨⟨fun _ _ => by omega, fun _ _ => by omega⟩, ⟨fun _ _ => by omega, fun _ h3 => ?_, fun _ h3 => ?_⟩, fun h3 h4 h5 => ?_, fun h3 => ?_⟩
    · have := tdiv_range (b := b) (m := most - d) hb (by omega) (by omega); omega
    · exact (tdiv_range (b := b) (m := most - d) hb (by omega) (by omega)).2
    · obtain ⟨n1, n2⟩ := hn h3
      have h6 : ¬ (most < n * b + d) := by rw [← ov (by omega) h4]; omega
      have h7 : 0 ≤ n * b := Int.mul_nonneg (by omega) (by omega)
      refine ⟨by omega, by omega, (x + 1, n * b + d, false), ⟨⟨rfl, ?_⟩, rfl⟩, ⟨by omega, hall, fun h => by (cases h), fun _ => ⟨by rw [htk, n1], .inl (by simp only; omega)⟩⟩, by omega⟩
      simp only [h3, Bool.false_or, Bool.or_eq_false_iff, decide_eq_false_iff_not]; omega
    · have hov : most < numV b (s.take (x + 1)) := by
        rcases h3 with (h3 | h3) | h3
        · have := ho h3; omega
        · rw [htk]
          have := Int.mul_nonneg hnn (show 0 ≤ b by omega)
          omega
        · by_cases h4 : d ≤ most
          · cases hov : over with
            | true => have := ho hov; omega
            | false =>
              obtain ⟨n1, n2⟩ := hn hov
              rw [ov (by omega) h4] at h3
              rw [htk, ← n1]; exact h3
          · rw [htk]
            have := Int.mul_nonneg hnn (show 0 ≤ b by omega)
            omega
      refine ⟨(x + 1, n, true), ⟨⟨rfl, ?_⟩, rfl⟩, ⟨by omega, hall, fun _ => hov, fun h => by (cases h)⟩, by omega⟩
      simp only [Bool.or_eq_true, decide_eq_true_eq]; exact h3
  · have : x = s.length := by omega
    subst this
    rw [List.take_length] at hd ho hn
    refine ⟨fun h => ?_, fun h => ?_⟩
    · have := num_over h0 hd (ho h); exact ⟨this.2.symm, this.1.symm⟩
    · obtain ⟨n1, n2⟩ := hn h
      have hl : s.length ≠ 0 := fun e => h0 (List.length_eq_zero_iff.1 e)
      have := num_good (most := most) h0 hd (by omega)
      exact ⟨by rw [this.2, n1], this.1.symm⟩
def tb_specNumber : List Blk → List AV → Option (List Blk × AV × Prop)
  | [], [.str s, .int .i64 b, .int .i64 most] => some ([], .tuple [.int .i64 (numVal b most s), .int .i64 (numErr b most s)], (b = 10 ∨ b = 16) ∧ (most ≤ 9223372036854775807))
  | _, _ => none
theorem tb_specNumber_ok : ∀ E args E' res p, tb_specNumber E args = some (E', res, p) → p → SpecE Tryd.prog 36 E args E' res := by
  intro E args E' res p h hp
  unfold tb_specNumber at h
  split at h
  · simp only [Option.some.injEq, Prod.mk.injEq] at h
    obtain ⟨rfl, rfl, rfl⟩ := h
    exact (specNumber _ _ _ hp.1 hp.2)
  · cases h

def T_specDec : Tbl := fun g E args => (addT nilT 36 Go.Proofs.Tryd.Dig.tb_specNumber) g E args
theorem T_specDec_ok : TblOK Tryd.prog T_specDec := (addT_ok nilT_ok (by decide +kernel) Go.Proofs.Tryd.Dig.tb_specNumber_ok)
set_option maxRecDepth 100000 in
set_option maxHeartbeats 4000000 in
theorem specDec (s : List UInt8) (most : Int) (hm : most ≤ 9223372036854775807) : SpecE Tryd.prog 19 [] [.str s, .int .i64 most] [] (.tuple [.int .i64 (numVal 10 most s), .int .i64 (numErr 10 most s)]) := by
  refine specF0 (C := T_specDec) (wr := false) (D := fun _ => []) (U := fun _ => none) (res := [.int .i64 (numVal 10 most s), .int .i64 (numErr 10 most s)]) Tryd.Ty.mixed T_specDec_ok Tryd.func19 (nA := 2) (by decide +kernel) rfl (fun _ => rfl) ?_
  simp only [Tryd.f19, bodyOf, rlOf]
  rw [W_V]
  simp (config := {maxSteps := 2000000}) only [T_specDec, Go.Proofs.Tryd.Dig.tb_specNumber, go_sem, seval]
  (try simp (config := {maxSteps := 2000000}) only [gimp, impB, isT, go_sem, seval])
  exact hm
def tb_specDec : List Blk → List AV → Option (List Blk × AV × Prop)
  | [], [.str s, .int .i64 most] => some ([], .tuple [.int .i64 (numVal 10 most s), .int .i64 (numErr 10 most s)], (most ≤ 9223372036854775807))
  | _, _ => none
theorem tb_specDec_ok : ∀ E args E' res p, tb_specDec E args = some (E', res, p) → p → SpecE Tryd.prog 19 E args E' res := by
  intro E args E' res p h hp
  unfold tb_specDec at h
  split at h
  · simp only [Option.some.injEq, Prod.mk.injEq] at h
    obtain ⟨rfl, rfl, rfl⟩ := h
    exact (specDec _ _ hp)
  · cases h


def T_specNumberR : Tbl := fun g E args => (addT nilT 40 Go.Proofs.Tryd.Dig.tb_specValueR) g E args
theorem T_specNumberR_ok : TblOK Tryd.prog T_specNumberR := (addT_ok nilT_ok (by decide +kernel) Go.Proofs.Tryd.Dig.tb_specValueR_ok)
set_option maxRecDepth 100000 in
set_option maxHeartbeats 4000000 in
theorem specNumberR (s : List UInt8) (b most : Int) (hb : b = 10 ∨ b = 16) (hm : most ≤ 9223372036854775807) (hs : s.length ≤ 1000000) : SpecE Tryd.prog 22 [] [.str s, .int .i64 b, .int .i64 most] [] (.tuple [.int .i64 (numVal b most s), .int .i64 (numErr b most s)]) := by
  refine specF0 (C := T_specNumberR) (wr := false) (D := fun _ => []) (U := fun _ => none) (res := [.int .i64 (numVal b most s), .int .i64 (numErr b most s)]) Tryd.Ty.mixed T_specNumberR_ok Tryd.func22 (nA := 3) (by decide +kernel) rfl (fun _ => rfl) ?_
  simp only [Tryd.f22, bodyOf, rlOf]
  rw [W_V]
  simp (config := {maxSteps := 2000000}) only [T_specNumberR, Go.Proofs.Tryd.Dig.tb_specValueR, go_sem, seval]
  (try simp (config := {maxSteps := 2000000}) only [gimp, impB, isT, go_sem, seval])
  refine ⟨fun h => ?_, fun h0 => ?_⟩
  · have : s = [] := List.length_eq_zero_iff.1 (by omega)
    simp [numVal, numErr, this]
  have hb1 : (1 : Int) ≤ b := by omega
  have hne : ¬ s = [] := fun e => h0 (by simp [e])
  refine VL_inv (X := Nat) (fun x => ⟨[(0, .str s), (1, .int .i64 b), (2, .int .i64 most), (8, .int .i64 x)], []⟩) (fun x => x ≤ s.length ∧ (s.take x).all (isDig b) = true) (fun x => s.length - x) 0 ?_ ?_ ?_
  · simp only [go_sem, go_sem, seval]
    try rfl
  · exact ⟨Nat.zero_le _, by simp⟩
  rintro x ⟨hx, hd⟩
  simp (config := {maxSteps := 2000000}) only [T_specNumberR, Go.Proofs.Tryd.Dig.tb_specValueR, go_sem, seval]
  (try simp (config := {maxSteps := 2000000}) only [gimp, impB, isT, go_sem, seval])
  refine ⟨fun hlt => ⟨by omega, fun hbad => ?_, fun hgood => ⟨by omega, x + 1, by omega, ⟨by omega, ?_⟩, by omega⟩⟩, fun hge => ?_⟩
  · have := num_bad (b := b) (most := most) (by omega) ((refDig_ge hb _).1 hbad)
    exact ⟨this.2.symm, this.1.symm⟩
  · exact (all_step (by omega) hd).1 ((refDig_lt hb _).1 hgood)
  have : x = s.length := by omega
  subst this
  rw [List.take_length] at hd
  refine VL_inv (X := List UInt8) (fun t => ⟨[(0, .str t), (1, .int .i64 b), (2, .int .i64 most)], []⟩) (fun t => t.length ≤ s.length ∧ 1 ≤ t.length ∧ t.all (isDig b) = true ∧ numV b t = numV b s) (fun t => t.length) s ?_ ?_ ?_
  · simp only [go_sem, go_sem, seval]
    try rfl
  · exact ⟨Nat.le_refl _, by omega, hd, rfl⟩
  rintro t ⟨t1, t2, t3, t4⟩
  simp (config := {maxSteps := 2000000}) only [T_specNumberR, Go.Proofs.Tryd.Dig.tb_specValueR, go_sem, seval]
  (try simp (config := {maxSteps := 2000000}) only [gimp, impB, isT, go_sem, seval])
  refine ⟨fun h => by omega, fun h1 h2 => ⟨by omega, _, rfl, ⟨by simp; omega, by simp; omega, all_drop 1 t3, by rw [numV_zero t2 h2, t4]⟩, by simp; omega⟩, fun h => ⟨fun hl => ?_, fun hl => ?_⟩⟩
  · have h48 : t.getD 0 0 ≠ 48 := by
      intro e
      have e1 : decide (1 < (t.length : Int)) = true := decide_eq_true (by omega)
      rw [e1, e] at h; simp at h
    have g1 := numV_great hb1 t3 t2 h48
    have g2 := pow_19 (n := t.length - 1) hb (by omega)
    have := num_over (most := most) hne hd (by omega)
    exact ⟨this.2.symm, this.1.symm⟩
  refine VL_inv (X := Nat × Int) (fun x => ⟨[(0, .str t), (1, .int .i64 b), (2, .int .i64 most), (9, .int .u64 x.2), (10, .int .i64 x.1)], []⟩) (fun x => x.1 ≤ t.length ∧ x.2 = numV b (t.take x.1) ∧ x.2 ≤ 18446744073709551615) (fun x => t.length - x.1) (0, 0) ?_ ?_ ?_
  · simp only [go_sem, go_sem, seval]
    try rfl
  · exact ⟨Nat.zero_le _, by simp [numV], by simp⟩
  rintro ⟨x, n⟩ ⟨hx', hn0, hn⟩
  simp only at hx' hn0 hn
  subst hn0
  simp (config := {maxSteps := 2000000}) only [T_specNumberR, Go.Proofs.Tryd.Dig.tb_specValueR, go_sem, seval]
  (try simp (config := {maxSteps := 2000000}) only [gimp, impB, isT, go_sem, seval])
  have hnn := numV_nonneg hb1 _ (all_take x t3)
  refine ⟨fun hlt => ?_, fun hge => ?_⟩
  · have hxl : x < t.length := by omega
    have hdig := all_get t3 hxl
    have hd2 := (isDig_iff _ _).1 hdig
    have htk := numV_take_succ b hxl
    have hle := numV_take_le hb1 t3 (x + 1)
    rw [refDig_of hdig]
    generalize digB (t.getD x 0) = d at *
    refine ⟨fun hbig => ?_, fun hsm => ?_⟩
    · have : most < numV b s := by
        rw [← t4]
        rcases hb with rfl | rfl <;> omega
      have := num_over (most := most) hne hd this
      exact ⟨this.2.symm, this.1.symm⟩
    · have hmul : 0 ≤ numV b (t.take x) * b ∧ numV b (t.take x) * b ≤ 18446744073709551600 := by rcases hb with rfl | rfl <;> omega
      exact ⟨by omega, by omega, by omega, by omega, by omega, by omega, (x + 1, numV b (t.take x) * b + d), ⟨rfl, by simp⟩, ⟨by simp only; omega, by rw [htk], by simp only; omega⟩, by simp only; omega⟩
  · have : x = t.length := by omega
    subst this
    rw [List.take_length, t4]
    refine ⟨fun _ => by omega, fun h => ?_, fun h1 h2 => ?_⟩
    · have hnn' := numV_nonneg hb1 _ hd
      have := num_over (most := most) hne hd (by omega)
      exact ⟨this.2.symm, this.1.symm⟩
    · have hnn' := numV_nonneg hb1 _ hd
      have := num_good (most := most) hne hd h2
      exact ⟨by omega, this.2.symm, this.1.symm⟩
def tb_specNumberR : List Blk → List AV → Option (List Blk × AV × Prop)
  | [], [.str s, .int .i64 b, .int .i64 most] => some ([], .tuple [.int .i64 (numVal b most s), .int .i64 (numErr b most s)], (b = 10 ∨ b = 16) ∧ (most ≤ 9223372036854775807) ∧ (s.length ≤ 1000000))
  | _, _ => none
theorem tb_specNumberR_ok : ∀ E args E' res p, tb_specNumberR E args = some (E', res, p) → p → SpecE Tryd.prog 22 E args E' res := by
  intro E args E' res p h hp
  unfold tb_specNumberR at h
  split at h
  · simp only [Option.some.injEq, Prod.mk.injEq] at h
    obtain ⟨rfl, rfl, rfl⟩ := h
    exact (specNumberR _ _ _ hp.1 hp.2.1 hp.2.2)
  · cases h

def T_specFigures : Tbl := fun g E args => nilT g E args
theorem T_specFigures_ok : TblOK Tryd.prog T_specFigures := nilT_ok
set_option maxRecDepth 100000 in
set_option maxHeartbeats 4000000 in
theorem specFigures (n b : Int) (hn : inR .i64 n) (hb : b = 10 ∨ b = 16) : SpecE Tryd.prog 60 [] [.int .i64 n, .int .i64 b] [] (.str (digs b.toNat n.natAbs)) := by
  refine specF0 (C := T_specFigures) (wr := false) (D := fun _ => []) (U := fun _ => none) (res := [.str (digs b.toNat n.natAbs)]) Tryd.Ty.mixed T_specFigures_ok Tryd.func60 (nA := 2) (by decide +kernel) rfl (fun _ => rfl) ?_
  simp only [Tryd.f60, bodyOf, rlOf]
  rw [W_V]
  simp (config := {maxSteps := 2000000}) only [T_specFigures, go_sem, seval]
  (try simp (config := {maxSteps := 2000000}) only [gimp, impB, isT, go_sem, seval])
  refine VL_inv (X := Int × Nat × List UInt8) (fun x => ⟨[(0, .int .i64 x.1), (1, .int .i64 b), (5, .ptr 96 0 0 64), (6, .int .i64 x.2.1)], [(96, .cells 1 false (.int .u8 0) (x.2.2.map byteAV))]⟩)
    (fun x => x.2.2.length = 64 ∧ x.2.1 ≤ 64 ∧ x.1.natAbs < 2 ^ x.2.1 ∧ x.1.natAbs ≤ 9223372036854775808 ∧ inR .i64 x.1 ∧ (if x.1 = 0 ∧ x.2.1 < 64 then [] else digs b.toNat x.1.natAbs) ++ x.2.2.drop x.2.1 = digs b.toNat n.natAbs) (fun x => x.2.1) (n, 64, List.replicate 64 0) ?_ ?_ ?_
  · simp only [go_sem, go_sem, seval]
    try rfl
  · simp only [inR] at hn
    refine ⟨by simp, Nat.le_refl _, ?_, by simp only; omega, hn, by simp⟩
    have : (2 : Nat) ^ 64 = 18446744073709551616 := by decide
    simp only; omega
  rintro ⟨m, at', l⟩ ⟨i1, i2, i3, i4, i5, i6⟩
  simp only at i1 i2 i3 i4 i5 i6
  simp (config := {maxSteps := 2000000}) only [T_specFigures, go_sem, seval]
  (try simp (config := {maxSteps := 2000000}) only [gimp, impB, isT, go_sem, seval])
  have hB : b.toNat = 10 ∨ b.toNat = 16 := by omega
  have hbn : b.natAbs = b.toNat := by omega
  have e1 : (m.tmod b).natAbs = m.natAbs % b.toNat := by rw [Int.natAbs_tmod, hbn]
  have e2 : (m.tdiv b).natAbs = m.natAbs / b.toNat := by rw [Int.natAbs_tdiv, hbn]; rfl
  have e3 := max_abs (m.tmod b)
  rw [e1] at e3
  rw [e3]
  simp only [Int.toNat_natCast, Nat.zero_add, i1]
  simp only [inR] at i5
  have hmod : m.natAbs % b.toNat < 16 := by
    have := Nat.mod_lt m.natAbs (show b.toNat > 0 by omega)
    omega
  have hdiv : m.natAbs / b.toNat ≤ m.natAbs / 10 := Nat.div_le_div_left (by omega) (by omega)
  refine ⟨fun hc => ?_, fun h64 hm0 => ⟨⟨trivial, trivial, by omega, by omega⟩, trivial, ?_⟩⟩
  · have hat : 1 ≤ at' := by
      rcases Nat.eq_zero_or_pos at' with h0 | h0
      · subst h0; simp at i3; omega
      · exact h0
    have hcond : ¬ (m = 0 ∧ at' < 64) := by omega
    rw [if_neg hcond] at i6
    refine ⟨by omega, by omega, by omega, by omega, ⟨trivial, by omega, by omega⟩, ⟨trivial, by omega⟩, ⟨by omega, by omega⟩, (m.tdiv b, at' - 1, l.set (at' - 1) (signN (m.natAbs % b.toNat))), ⟨⟨rfl, by simp only; omega⟩, ?_⟩, ⟨by simp [i1], by simp only; omega, ?_, by simp only; omega, by simp only; omega, ?_⟩, by simp only; omega⟩
    · rw [List.map_set]; rfl
    · simp only
      rw [e2]
      exact half_lt (by omega) (by rw [show at' - 1 + 1 = at' by omega]; exact i3)
    · simp only
      rw [drop_set_at (by omega), show at' - 1 + 1 = at' by omega, ← i6, e2]
      by_cases hsm : m.natAbs < b.toNat
      · have h0 : m.natAbs / b.toNat = 0 := Nat.div_eq_of_lt hsm
        have hz : m.tdiv b = 0 := by omega
        rw [if_pos ⟨hz, by omega⟩, digs_small hsm, Nat.mod_eq_of_lt hsm]
        rfl
      · have h1 : 1 ≤ m.natAbs / b.toNat := (Nat.le_div_iff_mul_le (by omega)).2 (by omega)
        rw [if_neg (by omega), digs_step (n := m.natAbs) (by omega) (by omega) (by omega)]
        simp
  · rw [if_pos ⟨hm0, by omega⟩] at i6
    rw [← i6]
    exact List.take_of_length_le (by simp; omega)
def tb_specFigures : List Blk → List AV → Option (List Blk × AV × Prop)
  | [], [.int .i64 n, .int .i64 b] => some ([], .str (digs b.toNat n.natAbs), (inR .i64 n) ∧ (b = 10 ∨ b = 16))
  | _, _ => none
theorem tb_specFigures_ok : ∀ E args E' res p, tb_specFigures E args = some (E', res, p) → p → SpecE Tryd.prog 60 E args E' res := by
  intro E args E' res p h hp
  unfold tb_specFigures at h
  split at h
  · simp only [Option.some.injEq, Prod.mk.injEq] at h
    obtain ⟨rfl, rfl, rfl⟩ := h
    exact (specFigures _ _ hp.1 hp.2)
  · cases h

def T_specDigitsR : Tbl := fun g E args => nilT g E args
theorem T_specDigitsR_ok : TblOK Tryd.prog T_specDigitsR := nilT_ok
set_option maxRecDepth 100000 in
set_option maxHeartbeats 4000000 in
theorem specDigitsR (n b : Int) (hn : 0 ≤ n ∧ n ≤ 18446744073709551615) (hb : b = 10 ∨ b = 16) : SpecE Tryd.prog 68 [] [.int .u64 n, .int .u64 b] [] (.str (digs b.toNat n.natAbs)) := by
  refine specF0 (C := T_specDigitsR) (wr := false) (D := fun i => []) (U := fun _ => none) (res := [.str (digs b.toNat n.natAbs)]) Tryd.Ty.mixed T_specDigitsR_ok Tryd.func68 (nA := 2) (by decide +kernel) rfl (fun _ => rfl) ?_
  simp only [Tryd.f68, bodyOf, rlOf]
  rw [W_V]
  simp (config := {maxSteps := 2000000}) only [T_specDigitsR, go_sem, seval]
  (try simp (config := {maxSteps := 2000000}) only [gimp, impB, isT, go_sem, seval])
  refine VL_inv (X := Nat × List UInt8) (fun x => ⟨[(0, .int .u64 x.1), (1, .int .u64 b), (5, .str [48, 49, 50, 51, 52, 53, 54, 55, 56, 57, 97, 98, 99, 100, 101, 102]), (6, .str x.2)], []⟩)
    (fun x => x.1 ≤ n.natAbs ∧ digs b.toNat x.1 ++ x.2 = digs b.toNat n.natAbs) (fun x => x.1) (n.natAbs, []) ?_ ?_ ?_
  · simp only [go_sem, go_sem, seval]
    try (exact ⟨by omega, rfl⟩)
    try omega
  · exact ⟨Nat.le_refl _, by simp⟩
  rintro ⟨m, out⟩ ⟨i1, i3⟩
  simp only at i1 i3
  simp (config := {maxSteps := 2000000}) only [T_specDigitsR, go_sem, seval]
  (try simp (config := {maxSteps := 2000000}) only [gimp, impB, isT, go_sem, seval])
  have hB : b.toNat = 10 ∨ b.toNat = 16 := by omega
  have i2 : out.length ≤ 70 := by
    have := digs_len b.toNat n.natAbs
    rw [← i3] at this
    simp at this; omega
  obtain ⟨e1, e2⟩ := tmod_nat hb m
  rw [e1, e2]
  have hlt := Nat.mod_lt m (show b.toNat > 0 by omega)
  have hle : m / b.toNat ≤ m / 10 := Nat.div_le_div_left (by omega) (by omega)
  have hq : (0 : Int) ≤ ((m / b.toNat : Nat) : Int) := Int.natCast_nonneg _
  have e3 : (((m % b.toNat : Nat) : Int) + 1).toNat = m % b.toNat + 1 := by omega
  have e4 := sign_slice (m % b.toNat) (by omega)
  simp only [sign16] at e4
  rw [e3, Int.toNat_natCast, e4]
  refine ⟨fun h => ⟨by omega, by omega, by omega, by omega, by simp only [List.length_cons, List.length_nil]; omega, by omega, (m / b.toNat, [signN (m % b.toNat)] ++ out), ⟨rfl, rfl⟩, ⟨by simp only; omega, ?_⟩, by simp only; omega⟩, fun h => ⟨by omega, by omega, ?_, ?_⟩⟩
  · rw [← i3, digs_step (n := m) (by omega) (by omega) (by omega)]
    simp
  · rw [sign_slice' m (by omega)]; simp only [List.length_cons, List.length_nil]; omega
  · rw [sign_slice' m (by omega), ← i3, digs_small (by omega)]
def tb_specDigitsR : List Blk → List AV → Option (List Blk × AV × Prop)
  | [], [.int .u64 n, .int .u64 b] => some ([], .str (digs b.toNat n.natAbs), (0 ≤ n ∧ n ≤ 18446744073709551615) ∧ (b = 10 ∨ b = 16))
  | _, _ => none
theorem tb_specDigitsR_ok : ∀ E args E' res p, tb_specDigitsR E args = some (E', res, p) → p → SpecE Tryd.prog 68 E args E' res := by
  intro E args E' res p h hp
  unfold tb_specDigitsR at h
  split at h
  · simp only [Option.some.injEq, Prod.mk.injEq] at h
    obtain ⟨rfl, rfl, rfl⟩ := h
    exact (specDigitsR _ _ hp.1 hp.2)
  · cases h

def T_specText : Tbl := fun g E args => (addT nilT 60 Go.Proofs.Tryd.Dig.tb_specFigures) g E args
theorem T_specText_ok : TblOK Tryd.prog T_specText := (addT_ok nilT_ok (by decide +kernel) Go.Proofs.Tryd.Dig.tb_specFigures_ok)
set_option maxRecDepth 100000 in
set_option maxHeartbeats 4000000 in
theorem specText (n : Int) (hn : inR .i64 n) : SpecE Tryd.prog 38 [] [.int .i64 n] [] (.str (textI n)) := by
  refine specF0 (C := T_specText) (wr := false) (D := fun _ => []) (U := fun _ => none) (res := [.str (textI n)]) Tryd.Ty.mixed T_specText_ok Tryd.func38 (nA := 1) (by decide +kernel) rfl (fun _ => rfl) ?_
  simp only [Tryd.f38, bodyOf, rlOf]
  rw [W_V]
  simp (config := {maxSteps := 2000000}) only [T_specText, Go.Proofs.Tryd.Dig.tb_specFigures, go_sem, seval]
  (try simp (config := {maxSteps := 2000000}) only [gimp, impB, isT, go_sem, seval])
  simp only [inR] at hn
  have := digs_len 10 n.natAbs
  refine ⟨fun h => ⟨hn, by omega, by simp [textI, h]⟩, fun h => ⟨hn, by simp [textI, Int.not_lt.2 h]⟩⟩
def tb_specText : List Blk → List AV → Option (List Blk × AV × Prop)
  | [], [.int .i64 n] => some ([], .str (textI n), (inR .i64 n))
  | _, _ => none
theorem tb_specText_ok : ∀ E args E' res p, tb_specText E args = some (E', res, p) → p → SpecE Tryd.prog 38 E args E' res := by
  intro E args E' res p h hp
  unfold tb_specText at h
  split at h
  · simp only [Option.some.injEq, Prod.mk.injEq] at h
    obtain ⟨rfl, rfl, rfl⟩ := h
    exact (specText _ hp)
  · cases h


def T_specTextR : Tbl := fun g E args => (addT nilT 68 Go.Proofs.Tryd.Dig.tb_specDigitsR) g E args
theorem T_specTextR_ok : TblOK Tryd.prog T_specTextR := (addT_ok nilT_ok (by decide +kernel) Go.Proofs.Tryd.Dig.tb_specDigitsR_ok)
set_option maxRecDepth 100000 in
set_option maxHeartbeats 4000000 in
theorem specTextR (n : Int) (hn : inR .i64 n) : SpecE Tryd.prog 43 [] [.int .i64 n] [] (.str (textI n)) := by
  refine specF0 (C := T_specTextR) (wr := false) (D := fun _ => []) (U := fun _ => none) (res := [.str (textI n)]) Tryd.Ty.mixed T_specTextR_ok Tryd.func43 (nA := 1) (by decide +kernel) rfl (fun _ => rfl) ?_
  simp only [Tryd.f43, bodyOf, rlOf]
  rw [W_V]
  simp (config := {maxSteps := 2000000}) only [T_specTextR, Go.Proofs.Tryd.Dig.tb_specDigitsR, go_sem, seval]
  (try simp (config := {maxSteps := 2000000}) only [gimp, impB, isT, go_sem, seval])
  simp only [inR] at hn
  have := digs_len 10 (0 - (n + 1) + 1).natAbs
  refine ⟨fun h => ⟨by omega, by omega, by omega, by omega, by omega, by omega, ?_⟩, fun h => ⟨by omega, by omega, by simp [textI, Int.not_lt.2 h]⟩⟩
  simp only [textI, if_pos h]
  rw [show (0 - (n + 1) + 1).natAbs = n.natAbs by omega]
def tb_specTextR : List Blk → List AV → Option (List Blk × AV × Prop)
  | [], [.int .i64 n] => some ([], .str (textI n), (inR .i64 n))
  | _, _ => none
theorem tb_specTextR_ok : ∀ E args E' res p, tb_specTextR E args = some (E', res, p) → p → SpecE Tryd.prog 43 E args E' res := by
  intro E args E' res p h hp
  unfold tb_specTextR at h
  split at h
  · simp only [Option.some.injEq, Prod.mk.injEq] at h
    obtain ⟨rfl, rfl, rfl⟩ := h
    exact (specTextR _ hp)
  · cases h
end Go.Proofs.Tryd.Dig
