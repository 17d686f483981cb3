/- octet: the walks. No condition. -/
import Derived.Test.YtlkfjkimnkhelaaDoorOctM
import Derived.Test.YtlkfjkimnkhelaaDoorTyp
set_option linter.unusedVariables false
set_option linter.unusedSimpArgs false
namespace Go.Proofs.Tryd.Oct
open Go Go.Abs Go.Proofs Go.Mdl

theorem mlen : marksB.length = 15 := rfl

def T_specTchar : Tbl := fun g E args => nilT g E args
theorem T_specTchar_ok : TblOK Tryd.prog T_specTchar := nilT_ok
set_option maxRecDepth 100000 in
set_option maxHeartbeats 4000000 in
theorem specTchar (r : Int) : SpecE Tryd.prog 82 [] [.int .i32 r] [] (.bool (tcharI r)) := by
  refine specF0 (C := T_specTchar) (wr := false) (D := fun _ => []) (U := fun i => if i = 5 then some ⟨Unit, fun _ => ⟨[(0, .int .i32 r)], []⟩, fun _ => ¬ ((97 ≤ r ∧ r ≤ 122) ∨ (65 ≤ r ∧ r ≤ 90) ∨ (48 ≤ r ∧ r ≤ 57))⟩ else none) (res := [.bool (tcharI r)]) Tryd.Ty.mixed T_specTchar_ok Tryd.func82 (nA := 1) (by decide +kernel) rfl (fun _ => rfl) ?_
  simp only [Tryd.f82, bodyOf, rlOf]
  rw [W_V]
  simp (config := {maxSteps := 2000000}) only [T_specTchar, go_sem, seval]
  (try simp (config := {maxSteps := 2000000}) only [gimp, impB, isT, go_sem, seval])
  refine ⟨?_, fun hno => ?_⟩
  · simp only [Bool.and_eq_false_iff, decide_eq_false_iff_not]
    refine ⟨fun h1 h2 => ⟨fun _ _ => (tchar_alnum (by omega)).symm, fun h => by omega⟩, fun h => ⟨fun h1 h2 => ⟨fun _ _ => (tchar_alnum (by omega)).symm, fun h => by omega⟩, fun h' => ⟨fun h1 h2 => (tchar_alnum (by omega)).symm, fun h'' => ⟨(), by omega⟩⟩⟩⟩
  refine VL_inv (X := Nat) (fun x => ⟨[(0, .int .i32 r), (24, .it 400)], [(400, .iter marksB x)]⟩) (fun x => x ≤ 15 ∧ NoMark r x) (fun x => 15 - x) 0 ?_ ?_ ?_
  · simp only [go_sem, go_sem, seval]
    rfl
  · exact ⟨Nat.zero_le _, fun i hi => by omega⟩
  rintro x ⟨hx, hn⟩
  simp (config := {maxSteps := 2000000}) only [T_specTchar, go_sem, seval]
  (try simp (config := {maxSteps := 2000000}) only [gimp, impB, isT, go_sem, seval])
  simp only [rune_low (marks_low x), mlen]
  refine ⟨fun hlt => ⟨hlt, fun he => (tchar_mark hlt he).symm, fun hne => ?_⟩, fun hge => ?_⟩
  · refine ⟨x + 1, by rw [if_pos hlt], ⟨by omega, fun i hi => ?_⟩, by omega⟩
    · by_cases e : i = x
      · subst e; exact hne
      · exact hn i (by omega)
  · have : x = 15 := by omega
    subst this
    exact (tchar_no hno hn).symm
def tb_specTchar : List Blk → List AV → Option (List Blk × AV × Prop)
  | [], [.int .i32 r] => some ([], .bool (tcharI r), True)
  | _, _ => none
theorem tb_specTchar_ok : ∀ E args E' res p, tb_specTchar E args = some (E', res, p) → p → SpecE Tryd.prog 82 E args E' res := by
  intro E args E' res p h hp
  unfold tb_specTchar at h
  split at h
  · simp only [Option.some.injEq, Prod.mk.injEq] at h
    obtain ⟨rfl, rfl, rfl⟩ := h
    exact (specTchar _)
  · cases h

def T_specTcharR : Tbl := fun g E args => nilT g E args
theorem T_specTcharR_ok : TblOK Tryd.prog T_specTcharR := nilT_ok
set_option maxRecDepth 100000 in
set_option maxHeartbeats 4000000 in
theorem specTcharR (c : UInt8) : SpecE Tryd.prog 85 [] [enc_u8 c] [] (.bool (tcharB c)) := by
  refine specF0 (C := T_specTcharR) (wr := false) (D := fun _ => []) (U := fun _ => none) (res := [.bool (tcharB c)]) Tryd.Ty.mixed T_specTcharR_ok Tryd.func85 (nA := 1) (by decide +kernel) rfl (fun _ => rfl) ?_
  simp only [Tryd.f85, bodyOf, rlOf]
  rw [W_V]
  simp (config := {maxSteps := 2000000}) only [T_specTcharR, go_sem, seval]
  (try simp (config := {maxSteps := 2000000}) only [gimp, impB, isT, go_sem, seval])
  refine ⟨fun h => ?_, fun h1 h2 h3 => ?_⟩
  · exact (tchar_alnum (by omega)).symm
  refine VL_inv (X := Nat) (fun x => ⟨[(0, .int .u8 c.toNat), (3, .str marksB), (4, .int .i64 x)], []⟩) (fun x => x ≤ 15 ∧ NoMark c.toNat x) (fun x => 15 - x) 0 ?_ ?_ ?_
  · simp only [go_sem, go_sem, seval]
    rfl
  · exact ⟨Nat.zero_le _, fun i hi => by omega⟩
  rintro x ⟨hx, hn⟩
  simp (config := {maxSteps := 2000000}) only [T_specTcharR, go_sem, seval]
  (try simp (config := {maxSteps := 2000000}) only [gimp, impB, isT, go_sem, seval])
  simp only [mlen]
  refine ⟨fun hlt => ⟨by omega, fun he => (tchar_mark (i := x) (by omega) (by rw [he])).symm, fun hne => ⟨by omega, x + 1, by omega, ⟨by omega, fun i hi => ?_⟩, by omega⟩⟩, fun hge => ?_⟩
  · by_cases e : i = x
    · subst e; intro h; exact hne (UInt8.toNat.inj (by omega))
    · exact hn i (by omega)
  · have : x = 15 := by omega
    subst this
    simp only [Bool.and_eq_false_iff, decide_eq_false_iff_not] at h1 h2 h3
    exact (tchar_no (by omega) hn).symm
def tb_specTcharR : List Blk → List AV → Option (List Blk × AV × Prop)
  | [], [a0] => some ([], .bool (tcharB (dec_u8 a0)), argOK a0 (enc_u8 (dec_u8 a0)))
  | _, _ => none
theorem tb_specTcharR_ok : ∀ E args E' res p, tb_specTcharR E args = some (E', res, p) → p → SpecE Tryd.prog 85 E args E' res := by
  intro E args E' res p h hp
  unfold tb_specTcharR at h
  split at h
  · simp only [Option.some.injEq, Prod.mk.injEq] at h
    obtain ⟨rfl, rfl, rfl⟩ := h
    exact SpecE.args (specTcharR _) (.cons hp .nil)
  · cases h



theorem spec_all {f : FuncId} (hy : ¬ f = 1000000) {PR : Int → Bool} {p : UInt8 → Bool} {b : Bool} (hr : RuneB PR p b) (hs : ∀ r, SpecE Tryd.prog f [] [.int .i32 r] [] (.bool (PR r))) (s : List UInt8) :
    SpecE Tryd.prog 44 [] [.str s, .clo f 0 []] [] (.bool (s.all p)) := by
  let tb : List Blk → List AV → Option (List Blk × AV × Prop) := fun E args => match E, args with
    | [], [.int .i32 r] => some ([], .bool (PR r), True)
    | _, _ => none
  have htb : TblOK Tryd.prog (addT nilT f tb) := addT_ok nilT_ok (by simp) (fun E args E' res q h hp => by
    simp only [tb] at h
    split at h
    · simp only [Option.some.injEq, Prod.mk.injEq] at h
      obtain ⟨rfl, rfl, rfl⟩ := h
      exact hs _
    · cases h)
  refine specF0 (C := addT nilT f tb) (wr := false) (D := fun _ => []) (U := fun _ => none) (res := [.bool (s.all p)]) Tryd.Ty.mixed htb Tryd.func44 (nA := 2) (by decide +kernel) rfl (fun _ => rfl) ?_
  simp only [Tryd.f44, bodyOf, rlOf]
  rw [W_V]
  simp only [go_sem, go_sem, seval, Tryd.underlying9]
  refine VL_inv (X := Nat) (fun x => ⟨[(1, .clo f 0 []), (8, .it 144)], [(144, .iter s x)]⟩) (fun x => x ≤ s.length ∧ (s.take x).all p = true) (fun x => s.length - x) 0 ?_ ?_ ?_
  · simp only [go_sem, go_sem, seval]
  · exact ⟨Nat.zero_le _, by simp⟩
  rintro x ⟨hx, hn⟩
  simp only [tb, hy, go_sem, go_sem, seval, Tryd.underlying9]
  refine ⟨fun hlt => ?_, fun hge => ?_⟩
  · obtain ⟨h1, h2⟩ := hr.step hlt hn
    have h3 := rune_pos hlt
    refine ⟨hlt, fun he => (h2 he).symm, fun he => ⟨x + (runeAt s x).2, by rw [if_pos hlt], ⟨h3.2.2, h1 (by simpa using he)⟩, by omega⟩⟩
  · have : x = s.length := by omega
    subst this
    rw [List.take_length] at hn
    exact hn.symm

def T_specAllTchar : Tbl := fun g E args => nilT g E args
theorem T_specAllTchar_ok : TblOK Tryd.prog T_specAllTchar := nilT_ok
set_option maxRecDepth 100000 in
set_option maxHeartbeats 4000000 in
theorem specAllTchar (s : List UInt8) : SpecE Tryd.prog 44 [] [.str s, .clo 82 0 []] [] (.bool (s.all tcharB)) := by
  exact spec_all (by decide) tchar_rune specTchar s
def tb_specAllTchar : List Blk → List AV → Option (List Blk × AV × Prop)
  | [], [.str s, .clo 82 0 []] => some ([], .bool (s.all tcharB), True)
  | _, _ => none
theorem tb_specAllTchar_ok : ∀ E args E' res p, tb_specAllTchar E args = some (E', res, p) → p → SpecE Tryd.prog 44 E args E' res := by
  intro E args E' res p h hp
  unfold tb_specAllTchar at h
  split at h
  · simp only [Option.some.injEq, Prod.mk.injEq] at h
    obtain ⟨rfl, rfl, rfl⟩ := h
    exact (specAllTchar _)
  · cases h


def T_specToken : Tbl := fun g E args => (addT nilT 44 Go.Proofs.Tryd.Oct.tb_specAllTchar) g E args
theorem T_specToken_ok : TblOK Tryd.prog T_specToken := (addT_ok nilT_ok (by decide +kernel) Go.Proofs.Tryd.Oct.tb_specAllTchar_ok)
set_option maxRecDepth 100000 in
set_option maxHeartbeats 4000000 in
theorem specToken (s : List UInt8) : SpecE Tryd.prog 59 [] [.str s] [] (.bool (tokenS s)) := by
  refine specF0 (C := T_specToken) (wr := false) (D := fun _ => []) (U := fun _ => none) (res := [.bool (tokenS s)]) Tryd.Ty.mixed T_specToken_ok Tryd.func59 (nA := 1) (by decide +kernel) rfl (fun _ => rfl) ?_
  simp only [Tryd.f59, bodyOf, rlOf]
  rw [W_V]
  simp (config := {maxSteps := 2000000}) only [T_specToken, Go.Proofs.Tryd.Oct.tb_specAllTchar, go_sem, seval]
  (try simp (config := {maxSteps := 2000000}) only [gimp, impB, isT, go_sem, seval])
  rfl
def tb_specToken : List Blk → List AV → Option (List Blk × AV × Prop)
  | [], [.str s] => some ([], .bool (tokenS s), True)
  | _, _ => none
theorem tb_specToken_ok : ∀ E args E' res p, tb_specToken E args = some (E', res, p) → p → SpecE Tryd.prog 59 E args E' res := by
  intro E args E' res p h hp
  unfold tb_specToken at h
  split at h
  · simp only [Option.some.injEq, Prod.mk.injEq] at h
    obtain ⟨rfl, rfl, rfl⟩ := h
    exact (specToken _)
  · cases h


def T_specTokenR : Tbl := fun g E args => (addT nilT 85 Go.Proofs.Tryd.Oct.tb_specTcharR) g E args
theorem T_specTokenR_ok : TblOK Tryd.prog T_specTokenR := (addT_ok nilT_ok (by decide +kernel) Go.Proofs.Tryd.Oct.tb_specTcharR_ok)
set_option maxRecDepth 100000 in
set_option maxHeartbeats 4000000 in
theorem specTokenR (s : List UInt8) (h : s.length ≤ 2147483647) : SpecE Tryd.prog 64 [] [.str s] [] (.bool (tokenS s)) := by
  refine specF0 (C := T_specTokenR) (wr := false) (D := fun _ => []) (U := fun _ => none) (res := [.bool (tokenS s)]) Tryd.Ty.mixed T_specTokenR_ok Tryd.func64 (nA := 1) (by decide +kernel) rfl (fun _ => rfl) ?_
  simp only [Tryd.f64, bodyOf, rlOf]
  rw [W_V]
  simp (config := {maxSteps := 2000000}) only [T_specTokenR, Go.Proofs.Tryd.Oct.tb_specTcharR, go_sem, seval]
  (try simp (config := {maxSteps := 2000000}) only [gimp, impB, isT, go_sem, seval])
  refine VL_inv (X := Nat) (fun x => ⟨[(0, .str s), (3, .int .i64 x)], []⟩) (fun x => x ≤ s.length ∧ (s.take x).all tcharB = true) (fun x => s.length - x) 0 ?_ ?_ ?_
  · simp only [go_sem, go_sem, seval]
  · exact ⟨Nat.zero_le _, by simp⟩
  rintro x ⟨hx, hn⟩
  simp (config := {maxSteps := 2000000}) only [T_specTokenR, Go.Proofs.Tryd.Oct.tb_specTcharR, go_sem, seval]
  (try simp (config := {maxSteps := 2000000}) only [gimp, impB, isT, go_sem, seval])
  refine ⟨fun hlt => ?_, fun hge => ?_⟩
  · obtain ⟨h1, h2⟩ := all_step (p := tcharB) (s := s) (x := x) (by omega) hn
    refine ⟨by omega, fun he => ?_, fun he => ⟨by omega, x + 1, by omega, ⟨by omega, h1 (by simpa using he)⟩, by omega⟩⟩
    simp [tokenS, h2 he]
  · have : x = s.length := by omega
    subst this
    rw [List.take_length] at hn
    simp only [tokenS, hn, Bool.and_true]
    cases s <;> simp <;> omega
def tb_specTokenR : List Blk → List AV → Option (List Blk × AV × Prop)
  | [], [.str s] => some ([], .bool (tokenS s), (s.length ≤ 2147483647))
  | _, _ => none
theorem tb_specTokenR_ok : ∀ E args E' res p, tb_specTokenR E args = some (E', res, p) → p → SpecE Tryd.prog 64 E args E' res := by
  intro E args E' res p h hp
  unfold tb_specTokenR at h
  split at h
  · simp only [Option.some.injEq, Prod.mk.injEq] at h
    obtain ⟨rfl, rfl, rfl⟩ := h
    exact (specTokenR _ hp)
  · cases h


end Go.Proofs.Tryd.Oct
