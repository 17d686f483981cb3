/- octet: the walks of texts' ends. No condition. -/
import Derived.Test.YtlkfjkimnkhelaaOct
import Derived.Test.YtlkfjkimnkhelaaOctT
set_option linter.unusedVariables false
set_option linter.unusedSimpArgs false
namespace Go.Proofs.Try.Oct
open Go Go.Abs Go.Proofs Go.Mdl

def T_specBlank : Tbl := fun g E args => nilT g E args
theorem T_specBlank_ok : TblOK Try.prog T_specBlank := nilT_ok
set_option maxRecDepth 100000 in
set_option maxHeartbeats 4000000 in
theorem specBlank (c : UInt8) : SpecE Try.prog 113 [] [enc_u8 c] [] (.bool (blankB c)) := by
  refine specF0 (C := T_specBlank) (wr := false) (D := fun _ => []) (U := fun _ => none) (res := [.bool (blankB c)]) Try.Ty.mixed T_specBlank_ok Try.func113 (nA := 1) (by decide +kernel) rfl (fun _ => rfl) ?_
  simp only [Try.f113, bodyOf, rlOf]
  rw [W_V]
  simp (config := {maxSteps := 2000000}) only [T_specBlank, go_sem, seval]
  (try simp (config := {maxSteps := 2000000}) only [gimp, impB, isT, go_sem, seval])
  rfl
def tb_specBlank : List Blk → List AV → Option (List Blk × AV × Prop)
  | [], [a0] => some ([], .bool (blankB (dec_u8 a0)), argOK a0 (enc_u8 (dec_u8 a0)))
  | _, _ => none
theorem tb_specBlank_ok : ∀ E args E' res p, tb_specBlank E args = some (E', res, p) → p → SpecE Try.prog 113 E args E' res := by
  intro E args E' res p h hp
  unfold tb_specBlank at h
  split at h
  · simp only [Option.some.injEq, Prod.mk.injEq] at h
    obtain ⟨rfl, rfl, rfl⟩ := h
    exact SpecE.args (specBlank _) (.cons hp .nil)
  · cases h

def T_specTrim : Tbl := fun g E args => (addT nilT 113 Go.Proofs.Try.Oct.tb_specBlank) g E args
theorem T_specTrim_ok : TblOK Try.prog T_specTrim := (addT_ok nilT_ok (by decide +kernel) Go.Proofs.Try.Oct.tb_specBlank_ok)
set_option maxRecDepth 100000 in
set_option maxHeartbeats 4000000 in
theorem specTrim (s : List UInt8) (hs : s.length ≤ maxLen) : SpecE Try.prog 77 [] [.str s] [] (.str (trimS s)) := by
  refine specF0 (C := T_specTrim) (wr := false) (D := fun _ => []) (U := fun _ => none) (res := [.str (trimS s)]) Try.Ty.mixed T_specTrim_ok Try.func77 (nA := 1) (by decide +kernel) rfl (fun _ => rfl) ?_
  simp only [Try.f77, bodyOf, rlOf]
  rw [W_V]
  simp (config := {maxSteps := 2000000}) only [T_specTrim, Go.Proofs.Try.Oct.tb_specBlank, go_sem, seval]
  (try simp (config := {maxSteps := 2000000}) only [gimp, impB, isT, go_sem, seval])
  refine VL_inv (X := Nat) (fun x => ⟨[(0, .str s), (3, .int .i64 x), (4, .int .i64 s.length)], []⟩) (fun x => x ≤ s.length ∧ trimL (s.drop x) = trimL s) (fun x => s.length - x) 0 ?_ ?_ ?_
  · simp only [go_sem, go_sem, seval]
    try rfl
  · exact ⟨Nat.zero_le _, by simp⟩
  rintro x ⟨hx, hn⟩
  have hm : s.length ≤ 9223372036854775807 := hs
  simp (config := {maxSteps := 2000000}) only [T_specTrim, Go.Proofs.Try.Oct.tb_specBlank, go_sem, seval]
  (try simp (config := {maxSteps := 2000000}) only [gimp, impB, isT, go_sem, seval])
  refine ⟨fun _ => by omega, fun h1 h2 => ⟨by omega, x + 1, by omega, ⟨by omega, ?_⟩, by omega⟩, fun h => ?_⟩
  · rw [← hn]
    have := trimL_cons (s := s.drop x) (by simp; omega) (by rw [drop_getD0]; exact h2)
    rw [← this, List.drop_drop]
  have hstop : trimL s = s.drop x := by
    rw [← hn]
    refine trimL_none (fun hl => ?_)
    rw [drop_getD0]
    simp at hl
    simpa [show (x : Int) < s.length by omega] using h
  refine VL_inv (X := Nat) (fun y => ⟨[(0, .str s), (3, .int .i64 x), (4, .int .i64 y)], []⟩) (fun y => x ≤ y ∧ y ≤ s.length ∧ trimR ((s.take y).drop x) = trimS s) (fun y => y - x) s.length ?_ ?_ ?_
  · simp only [go_sem, go_sem, seval]
    try rfl
  · refine ⟨hx, Nat.le_refl _, ?_⟩
    rw [List.take_length, trimS, hstop]
  rintro y ⟨h1, h2, h3⟩
  simp (config := {maxSteps := 2000000}) only [T_specTrim, Go.Proofs.Try.Oct.tb_specBlank, go_sem, seval]
  (try simp (config := {maxSteps := 2000000}) only [gimp, impB, isT, go_sem, seval])
  refine ⟨⟨fun _ => by omega, fun _ => by omega⟩, ⟨fun _ => by omega, fun _ => by omega⟩, fun hlt hb => ⟨by omega, y - 1, by omega, ⟨by omega, by omega, ?_⟩, by omega⟩, fun hb => ⟨by omega, ?_⟩⟩
  · rw [trimR_between (by omega) h2 hb]; exact h3
  · rw [← h3]
    refine (trimR_stop h1 h2 (fun hlt => ?_)).symm
    simpa [show (x : Int) < y by omega] using hb
def tb_specTrim : List Blk → List AV → Option (List Blk × AV × Prop)
  | [], [.str s] => some ([], .str (trimS s), (s.length ≤ maxLen))
  | _, _ => none
theorem tb_specTrim_ok : ∀ E args E' res p, tb_specTrim E args = some (E', res, p) → p → SpecE Try.prog 77 E args E' res := by
  intro E args E' res p h hp
  unfold tb_specTrim at h
  split at h
  · simp only [Option.some.injEq, Prod.mk.injEq] at h
    obtain ⟨rfl, rfl, rfl⟩ := h
    exact (specTrim _ hp)
  · cases h

def T_specTrimR : Tbl := fun g E args => nilT g E args
theorem T_specTrimR_ok : TblOK Try.prog T_specTrimR := nilT_ok
set_option maxRecDepth 100000 in
set_option maxHeartbeats 4000000 in
theorem specTrimR (s : List UInt8) (hs : s.length ≤ maxLen) : SpecE Try.prog 88 [] [.str s] [] (.str (trimS s)) := by
  refine specF0 (C := T_specTrimR) (wr := false) (D := fun _ => []) (U := fun _ => none) (res := [.str (trimS s)]) Try.Ty.mixed T_specTrimR_ok Try.func88 (nA := 1) (by decide +kernel) rfl (fun _ => rfl) ?_
  simp only [Try.f88, bodyOf, rlOf]
  rw [W_V]
  simp (config := {maxSteps := 2000000}) only [T_specTrimR, go_sem, seval]
  (try simp (config := {maxSteps := 2000000}) only [gimp, impB, isT, go_sem, seval])
  have hm : s.length ≤ 9223372036854775807 := hs
  refine VL_inv (X := List UInt8) (fun t => ⟨[(0, .str t)], []⟩) (fun t => t.length ≤ s.length ∧ trimL t = trimL s) (fun t => t.length) s ?_ ?_ ?_
  · simp only [go_sem, go_sem, seval]
    try rfl
  · exact ⟨Nat.le_refl _, rfl⟩
  rintro t ⟨hx, hn⟩
  simp (config := {maxSteps := 2000000}) only [T_specTrimR, go_sem, seval]
  (try simp (config := {maxSteps := 2000000}) only [gimp, impB, isT, go_sem, seval])
  refine ⟨fun h _ => h, fun h1 h2 => ⟨by omega, _, rfl, ⟨by simp; omega, ?_⟩, by simp; omega⟩, fun h => ?_⟩
  · rw [← hn]
    exact trimL_cons (by omega) (by simpa [blankB] using h2)
  have hstop : trimL s = t := by
    rw [← hn]
    refine trimL_none (fun hl => ?_)
    simpa [blankB, hl] using h
  refine VL_inv (X := List UInt8) (fun t => ⟨[(0, .str t)], []⟩) (fun t => t.length ≤ s.length ∧ trimR t = trimS s) (fun t => t.length) t ?_ ?_ ?_
  · simp only [go_sem, go_sem, seval]
    try rfl
  · exact ⟨hx, by rw [trimS, hstop]⟩
  clear h hstop hn hx t
  rintro t ⟨hx, hn⟩
  simp (config := {maxSteps := 2000000}) only [T_specTrimR, go_sem, seval]
  (try simp (config := {maxSteps := 2000000}) only [gimp, impB, isT, go_sem, seval])
  refine ⟨⟨fun _ => by omega, fun _ => by omega⟩, ⟨fun _ => by omega, fun _ => by omega⟩, ⟨fun _ _ => by omega, fun _ _ => by omega⟩, ⟨fun _ _ => by omega, fun _ _ => by omega⟩,
    fun h1 h2 => ⟨by omega, by omega, _, rfl, ⟨by simp; omega, ?_⟩, by simp; omega⟩, fun h => ?_⟩
  · rw [← hn]
    exact trimR_snoc (by omega) (by simpa [blankB] using h2)
  · rw [← hn]
    refine (trimR_none (fun hl => ?_)).symm
    simpa [blankB, hl] using h
def tb_specTrimR : List Blk → List AV → Option (List Blk × AV × Prop)
  | [], [.str s] => some ([], .str (trimS s), (s.length ≤ maxLen))
  | _, _ => none
theorem tb_specTrimR_ok : ∀ E args E' res p, tb_specTrimR E args = some (E', res, p) → p → SpecE Try.prog 88 E args E' res := by
  intro E args E' res p h hp
  unfold tb_specTrimR at h
  split at h
  · simp only [Option.some.injEq, Prod.mk.injEq] at h
    obtain ⟨rfl, rfl, rfl⟩ := h
    exact (specTrimR _ hp)
  · cases h
end Go.Proofs.Try.Oct
