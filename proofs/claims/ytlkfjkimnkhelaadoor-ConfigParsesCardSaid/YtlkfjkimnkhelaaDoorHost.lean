/- host: the walks of the program. No condition beyond those that a machine's numbers bring. -/
import Derived.Test.YtlkfjkimnkhelaaDoorHostM
import Derived.Test.YtlkfjkimnkhelaaDoorDig
import Derived.Test.YtlkfjkimnkhelaaDoorLib
set_option linter.unusedVariables false
set_option linter.unusedSimpArgs false
namespace Go.Proofs.Tryd.Host
open Go Go.Abs Go.Proofs Go.Mdl

theorem hexI_high {r : Int} (h : 128 ≤ r) : hexI r = false := by simp [hexI]; omega
theorem plainI_high {r : Int} (h : 128 ≤ r) : plainI r = false := by
  have h1 : alnumI r = false := by simp [alnumI]; omega
  have h2 : ∀ m ∈ hsigns, m.toNat < 128 := by decide
  have h3 : (hsigns.any fun m => decide ((m.toNat : Int) = r)) = false := by
    rw [← Bool.not_eq_true, List.any_eq_true]
    rintro ⟨m, hm, he⟩
    have := h2 m hm
    simp at he; omega
  simp only [plainI, h1, h3, Bool.or_false]
theorem idxB_mem (c : UInt8) (s : List UInt8) : 0 ≤ idxB c s ↔ c ∈ s := by
  have : upTo c s < s.length ↔ c ∈ s := by
    induction s with
    | nil => simp [upTo]
    | cons b l ih =>
      simp only [upTo, List.mem_cons, List.length_cons]
      by_cases e : b = c
      · simp [e]
      · rw [if_neg e]
        constructor
        · intro h; exact .inr (ih.1 (by omega))
        · rintro (h | h)
          · exact absurd h.symm e
          · have := ih.2 h; omega
  unfold idxB
  rw [← this]
  split <;> omega
theorem wrap_u8 (r : Int) : IntKind.u8.wrap r = r % 256 := rfl
theorem plain_form {r : Int} (hr : 0 ≤ r) : (alnumI r || (decide (0 ≤ idxB (UInt8.ofNat (IntKind.u8.wrap r).toNat) hsigns) && decide (r < 128))) = plainI r := by
  by_cases h : r < 128
  · have hw : IntKind.u8.wrap r = r := by rw [wrap_u8]; omega
    have hn : ∀ m : UInt8, (m.toNat : Int) = r ↔ m = UInt8.ofNat r.toNat := by
      intro m
      constructor
      · intro e; apply UInt8.toNat.inj; simp; omega
      · rintro rfl; simp; omega
    rw [hw]
    unfold plainI
    congr 1
    rw [decide_eq_true h, Bool.and_true, Bool.eq_iff_iff, decide_eq_true_eq, idxB_mem, List.any_eq_true]
    constructor
    · intro hm; exact ⟨_, hm, by simp only [hn, decide_true]⟩
    · rintro ⟨m, hm, he⟩
      simp only [hn, decide_eq_true_eq] at he
      rw [← he]; exact hm
  · have h1 : alnumI r = false := by simp [alnumI]; omega
    rw [plainI_high (by omega), h1, decide_eq_false h, Bool.and_false, Bool.or_false]
theorem rune_kinds {s : List UInt8} {x : Nat} (hx : x < s.length) : hexI (runeAt s x).1 = hexB (s.getD x 0) ∧ (hexI (runeAt s x).1 = true → (runeAt s x).2 = 1) ∧ ((runeAt s x).1 = 37 ↔ s.getD x 0 = 37) ∧ ((runeAt s x).1 = 37 → (runeAt s x).2 = 1) ∧
    plainI (runeAt s x).1 = plainB (s.getD x 0) ∧ (plainI (runeAt s x).1 = true → (runeAt s x).2 = 1) := by
  by_cases hl : (s.getD x 0).toNat < 128
  · rw [rune_low hl]
    refine ⟨rfl, fun _ => rfl, ?_, fun _ => rfl, rfl, fun _ => rfl⟩
    simp only [u8_lit, Nat.reduceLT]
  · obtain ⟨h1, h2, h3, h4, h5⟩ := rune_high hx (by omega)
    have e1 : hexB (s.getD x 0) = false := hexI_high (by omega)
    have e2 : plainB (s.getD x 0) = false := plainI_high (by omega)
    rw [hexI_high h1, plainI_high h1, e1, e2]
    refine ⟨rfl, fun h => by (cases h), ⟨fun h => by omega, fun h => by rw [h] at hl; exact absurd (by decide) hl⟩, fun h => by omega, rfl, fun h => by (cases h)⟩

def T_specHex : Tbl := fun g E args => nilT g E args
theorem T_specHex_ok : TblOK Tryd.prog T_specHex := nilT_ok
set_option maxRecDepth 100000 in
set_option maxHeartbeats 4000000 in
theorem specHex (r : Int) : SpecE Tryd.prog 107 [] [.int .i32 r] [] (.bool (hexI r)) := by
  refine specF0 (C := T_specHex) (wr := false) (D := fun _ => []) (U := fun _ => none) (res := [.bool (hexI r)]) Tryd.Ty.mixed T_specHex_ok Tryd.func107 (nA := 1) (by decide +kernel) rfl (fun _ => rfl) ?_
  simp only [Tryd.f107, bodyOf, rlOf]
  rw [W_V]
  simp (config := {maxSteps := 2000000}) only [T_specHex, go_sem, seval]
  (try simp (config := {maxSteps := 2000000}) only [gimp, impB, isT, go_sem, seval])
  simp [hexI, Bool.or_assoc]
def tb_specHex : List Blk → List AV → Option (List Blk × AV × Prop)
  | [], [.int .i32 r] => some ([], .bool (hexI r), True)
  | _, _ => none
theorem tb_specHex_ok : ∀ E args E' res p, tb_specHex E args = some (E', res, p) → p → SpecE Tryd.prog 107 E args E' res := by
  intro E args E' res p h hp
  unfold tb_specHex at h
  split at h
  · simp only [Option.some.injEq, Prod.mk.injEq] at h
    obtain ⟨rfl, rfl, rfl⟩ := h
    exact (specHex _)
  · cases h

def T_specPlain : Tbl := fun g E args => (addT nilT 106 Go.Proofs.Tryd.Lib.tb_specIndexByte) g E args
theorem T_specPlain_ok : TblOK Tryd.prog T_specPlain := (addT_ok nilT_ok (by decide +kernel) Go.Proofs.Tryd.Lib.tb_specIndexByte_ok)
set_option maxRecDepth 100000 in
set_option maxHeartbeats 4000000 in
theorem specPlain (r : Int) (hr : 0 ≤ r) : SpecE Tryd.prog 108 [] [.int .i32 r] [] (.bool (plainI r)) := by
  refine specF0 (C := T_specPlain) (wr := true) (D := fun _ => []) (U := fun _ => none) (res := [.bool (plainI r)]) Tryd.Ty.mixed T_specPlain_ok Tryd.func108 (nA := 1) (by decide +kernel) rfl (fun _ => rfl) ?_
  simp only [Tryd.f108, bodyOf, rlOf]
  rw [W_V]
  simp (config := {maxSteps := 2000000}) only [T_specPlain, Go.Proofs.Tryd.Lib.tb_specIndexByte, go_sem, seval]
  (try simp (config := {maxSteps := 2000000}) only [gimp, impB, isT, go_sem, seval])
  refine ⟨fun _ _ _ => ?_, ?_⟩
  · have : 0 ≤ IntKind.u8.wrap r ∧ IntKind.u8.wrap r < 256 := by rw [wrap_u8]; omega
    congr 1
    simp; omega
  · rw [show [45, 46, 95, 126, 33, 36, 38, 39, 40, 41, 42, 43, 44, 59, 61] = hsigns from rfl, ← plain_form hr, Bool.eq_iff_iff]
    simp only [alnumI, Bool.or_eq_true, Bool.and_eq_true, decide_eq_true_eq]
    omega
def tb_specPlain : List Blk → List AV → Option (List Blk × AV × Prop)
  | [], [.int .i32 r] => some ([], .bool (plainI r), (0 ≤ r))
  | _, _ => none
theorem tb_specPlain_ok : ∀ E args E' res p, tb_specPlain E args = some (E', res, p) → p → SpecE Tryd.prog 108 E args E' res := by
  intro E args E' res p h hp
  unfold tb_specPlain at h
  split at h
  · simp only [Option.some.injEq, Prod.mk.injEq] at h
    obtain ⟨rfl, rfl, rfl⟩ := h
    exact (specPlain _ hp)
  · cases h

def T_specRegistered : Tbl := fun g E args => (addT (addT nilT 107 Go.Proofs.Tryd.Host.tb_specHex) 108 Go.Proofs.Tryd.Host.tb_specPlain) g E args
theorem T_specRegistered_ok : TblOK Tryd.prog T_specRegistered := (addT_ok (addT_ok nilT_ok (by decide +kernel) Go.Proofs.Tryd.Host.tb_specHex_ok) (by decide +kernel) Go.Proofs.Tryd.Host.tb_specPlain_ok)
set_option maxRecDepth 100000 in
set_option maxHeartbeats 4000000 in
theorem specRegistered (s : List UInt8) : SpecE Tryd.prog 95 [] [.str s] [] (.bool (regS s)) := by
  refine specF0 (C := T_specRegistered) (wr := false) (D := fun _ => []) (U := fun _ => none) (res := [.bool (regS s)]) Tryd.Ty.mixed T_specRegistered_ok Tryd.func95 (nA := 1) (by decide +kernel) rfl (fun _ => rfl) ?_
  simp only [Tryd.f95, bodyOf, rlOf]
  rw [W_V]
  simp (config := {maxSteps := 2000000}) only [T_specRegistered, Go.Proofs.Tryd.Host.tb_specHex, Go.Proofs.Tryd.Host.tb_specPlain, go_sem, seval]
  (try simp (config := {maxSteps := 2000000}) only [gimp, impB, isT, go_sem, seval])
  refine VL_inv (X := Nat × Nat) (fun x => ⟨[(0, .str s), (3, .int .i64 x.2), (7, .it 128)], [(128, .iter s x.1)]⟩) (fun x => x.1 ≤ s.length ∧ x.2 ≤ 2 ∧ regGo 0 s = regGo x.2 (s.drop x.1)) (fun x => s.length - x.1) (0, 0) ?_ ?_ ?_
  · simp only [go_sem, go_sem, seval]
    try rfl
  · exact ⟨Nat.zero_le _, Nat.zero_le _, by simp⟩
  rintro ⟨x, n⟩ ⟨hx, hn, hr⟩
  simp only at hx hn hr
  simp (config := {maxSteps := 2000000}) only [T_specRegistered, Go.Proofs.Tryd.Host.tb_specHex, Go.Proofs.Tryd.Host.tb_specPlain, go_sem, seval]
  (try simp (config := {maxSteps := 2000000}) only [gimp, impB, isT, go_sem, seval])
  refine ⟨fun hlt => ⟨hlt, ?_⟩, fun hge => ?_⟩
  · obtain ⟨k1, k2, k3, k4, k5, k6⟩ := rune_kinds hlt
    have hd := drop_cons hlt
    simp only [if_pos hlt]
    refine ⟨fun h1 h2 => ⟨by omega, (x + 1, n - 1), ⟨by simp only; omega, by rw [k2 h2]⟩, ⟨by simp only; omega, by simp only; omega, ?_⟩, by simp only; omega⟩, fun h12 => ⟨fun h1 => ?_, fun h1 => ⟨fun h2 => ⟨(x + 1, 2), ⟨rfl, by rw [k4 h2]⟩, ⟨by simp only; omega, by simp only; omega, ?_⟩, by simp only; omega⟩, fun h2 => ⟨(rune_pos hlt).1, fun h3 => ?_, fun h3 => ⟨(x + 1, n), ⟨rfl, by rw [k6 h3]⟩, ⟨by simp only; omega, hn, ?_⟩, by simp only; omega⟩⟩⟩⟩⟩
    · obtain ⟨m, rfl⟩ : ∃ m, n = m + 1 := ⟨n - 1, by omega⟩
      rw [hr, hd, regGo_owe, ← k1, h2]; rfl
    · obtain ⟨m, rfl⟩ : ∃ m, n = m + 1 := ⟨n - 1, by omega⟩
      rw [decide_eq_true h1, Bool.true_and, k1] at h12
      rw [regS, hr, hd, regGo_owe, h12]; simp
    · obtain rfl : n = 0 := by omega
      rw [hr, hd, k3.1 h2, regGo_37]
    · obtain rfl : n = 0 := by omega
      rw [regS, hr, hd, regGo_plain _ (fun e => h2 (k3.2 e)), ← k5, h3]; simp
    · obtain rfl : n = 0 := by omega
      rw [hr, hd, regGo_plain _ (fun e => h2 (k3.2 e)), ← k5, h3]; rfl
  · have : x = s.length := by omega
    subst this
    rw [List.drop_length] at hr
    rw [regS, hr]
    cases n with
    | zero => simp [regGo]
    | succ n => have : ¬ ((n : Int) + 1 = 0) := by omega
                simp [regGo, this]
def tb_specRegistered : List Blk → List AV → Option (List Blk × AV × Prop)
  | [], [.str s] => some ([], .bool (regS s), True)
  | _, _ => none
theorem tb_specRegistered_ok : ∀ E args E' res p, tb_specRegistered E args = some (E', res, p) → p → SpecE Tryd.prog 95 E args E' res := by
  intro E args E' res p h hp
  unfold tb_specRegistered at h
  split at h
  · simp only [Option.some.injEq, Prod.mk.injEq] at h
    obtain ⟨rfl, rfl, rfl⟩ := h
    exact (specRegistered _)
  · cases h


def T_specHexR : Tbl := fun g E args => (addT nilT 40 Go.Proofs.Tryd.Dig.tb_specValueR) g E args
theorem T_specHexR_ok : TblOK Tryd.prog T_specHexR := (addT_ok nilT_ok (by decide +kernel) Go.Proofs.Tryd.Dig.tb_specValueR_ok)
set_option maxRecDepth 100000 in
set_option maxHeartbeats 4000000 in
theorem specHexR (c : UInt8) : SpecE Tryd.prog 53 [] [enc_u8 c] [] (.bool (hexB c)) := by
  refine specF0 (C := T_specHexR) (wr := false) (D := fun _ => []) (U := fun _ => none) (res := [.bool (hexB c)]) Tryd.Ty.mixed T_specHexR_ok Tryd.func53 (nA := 1) (by decide +kernel) rfl (fun _ => rfl) ?_
  simp only [Tryd.f53, bodyOf, rlOf]
  rw [W_V]
  simp (config := {maxSteps := 2000000}) only [T_specHexR, Go.Proofs.Tryd.Dig.tb_specValueR, go_sem, seval]
  (try simp (config := {maxSteps := 2000000}) only [gimp, impB, isT, go_sem, seval])
  rw [Bool.eq_iff_iff, decide_eq_true_eq, refDig_lt (.inr rfl), isDig_iff]
  have : (0 ≤ digB c ∧ digB c < 16) ↔ hexI c.toNat = true := by
    simp only [digB, digI, hexI, decide_eq_true_eq]
    split
    · omega
    · split
      · omega
      · split <;> omega
  exact this
def tb_specHexR : List Blk → List AV → Option (List Blk × AV × Prop)
  | [], [a0] => some ([], .bool (hexB (dec_u8 a0)), argOK a0 (enc_u8 (dec_u8 a0)))
  | _, _ => none
theorem tb_specHexR_ok : ∀ E args E' res p, tb_specHexR E args = some (E', res, p) → p → SpecE Tryd.prog 53 E args E' res := by
  intro E args E' res p h hp
  unfold tb_specHexR at h
  split at h
  · simp only [Option.some.injEq, Prod.mk.injEq] at h
    obtain ⟨rfl, rfl, rfl⟩ := h
    exact SpecE.args (specHexR _) (.cons hp .nil)
  · cases h

def T_specNameR : Tbl := fun g E args => (addT nilT 53 Go.Proofs.Tryd.Host.tb_specHexR) g E args
theorem T_specNameR_ok : TblOK Tryd.prog T_specNameR := (addT_ok nilT_ok (by decide +kernel) Go.Proofs.Tryd.Host.tb_specHexR_ok)
set_option maxRecDepth 100000 in
set_option maxHeartbeats 4000000 in
theorem specNameR (s : List UInt8) (hs : s.length ≤ 1000000) : SpecE Tryd.prog 31 [] [.str s] [] (.int .i64 (nameLen s)) := by
  refine specF0 (C := T_specNameR) (wr := false) (D := fun _ => []) (U := fun _ => none) (res := [.int .i64 (nameLen s)]) Tryd.Ty.mixed T_specNameR_ok Tryd.func31 (nA := 1) (by decide +kernel) rfl (fun _ => rfl) ?_
  simp only [Tryd.f31, bodyOf, rlOf]
  rw [W_V]
  simp (config := {maxSteps := 2000000}) only [T_specNameR, Go.Proofs.Tryd.Host.tb_specHexR, go_sem, seval]
  (try simp (config := {maxSteps := 2000000}) only [gimp, impB, isT, go_sem, seval])
  refine ⟨fun h0 h91 => ?_, fun hno => ?_⟩
  · have e : nameLen s = litLen s := by unfold nameLen; rw [if_pos ⟨h91, by rintro rfl; simp at h0⟩]
    rw [e]
    refine VL_inv (X := Nat) (fun x => ⟨[(0, .str s), (3, .int .i64 x)], []⟩) (fun x => 1 ≤ x ∧ x ≤ s.length ∧ ((s.drop 1).take (x - 1)).all litB = true) (fun x => s.length - x) 1 ?_ ?_ ?_
    · simp only [go_sem, go_sem, seval]
      try rfl
    · exact ⟨Nat.le_refl _, by omega, by simp⟩
    rintro x ⟨hx1, hx, hn⟩
    simp (config := {maxSteps := 2000000}) only [T_specNameR, Go.Proofs.Tryd.Host.tb_specHexR, go_sem, seval]
    (try simp (config := {maxSteps := 2000000}) only [gimp, impB, isT, go_sem, seval])
    have hl1 : (s.drop 1).length = s.length - 1 := by simp
    have hg : (s.drop 1).getD (x - 1) 0 = s.getD x 0 := by rw [getD_drop]; congr 1; omega
    have hbad : litB (s.getD x 0) = (hexB (s.getD x 0) || decide (s.getD x 0 = 58) || decide (s.getD x 0 = 46)) := rfl
    have hstop : (decide ((x : Int) < s.length) && litB (s.getD x 0)) = false → x - 1 = spanL litB (s.drop 1) := fun h => by
      refine span_exit (by omega) hn (fun hlt => ?_)
      rw [hg]
      have : (x : Int) < s.length := by omega
      simpa [this] using h
    rw [← hbad]
    (repeat' (first | refine And.intro ?_ ?_ | intro _))
    all_goals (try first | omega | assumption | contradiction)
    · rename_i h1 h2
      refine ⟨x + 1, by omega, ⟨by omega, by omega, ?_⟩, by omega⟩
      have := (all_step (p := litB) (s := s.drop 1) (x := x - 1) (by omega) hn).1 (by rw [hg, hbad]; simpa using h2)
      rw [show x - 1 + 1 = x + 1 - 1 by omega] at this; exact this
    · rename_i h1 h2
      have h3 := hstop h1
      have : litLen s = 0 := by
        simp only [litLen]
        rw [if_pos]
        rw [← h3, show x - 1 + 1 = x by omega]
        rcases h2 with (h2 | h2) | h2
        · left; omega
        · right; left; omega
        · right; right; exact h2
      rw [this]; rfl
    · rename_i h1 h2 h4 h5
      have h3 := hstop h1
      have : litLen s = x + 1 := by
        simp only [litLen]
        rw [if_neg]
        · omega
        · rw [← h3, show x - 1 + 1 = x by omega]
          rintro (h | h | h)
          · omega
          · omega
          · exact h h5
      rw [this]; rfl
  · refine VL_inv (X := Nat) (fun x => ⟨[(0, .str s), (3, .int .i64 x)], []⟩) (fun x => x ≤ s.length ∧ regLen s = (regLen (s.drop x)).map (· + x)) (fun x => s.length - x) 0 ?_ ?_ ?_
    · simp only [go_sem, go_sem, seval]
      try rfl
    · exact ⟨Nat.zero_le _, by simp⟩
    rintro x ⟨hx, hn⟩
    simp (config := {maxSteps := 2000000}) only [T_specNameR, Go.Proofs.Tryd.Host.tb_specHexR, go_sem, seval]
    (try simp (config := {maxSteps := 2000000}) only [gimp, impB, isT, go_sem, seval])
    have h91 : nameLen s = (regLen s).getD 0 := by
      unfold nameLen
      rw [if_neg]
      rintro ⟨h1, h2⟩
      have : 0 < s.length := List.length_pos_iff.2 h2
      rw [h1, decide_eq_true (by omega)] at hno
      simp at hno
    have hd := fun h : x < s.length => drop_cons h
    have hd1 := fun h : x + 1 < s.length => drop_cons h
    have hd2 := fun h : x + 2 < s.length => drop_cons h
    (repeat' (first | refine And.intro ?_ ?_ | intro _))
    all_goals (try first | omega | assumption | contradiction)
    · rename_i h1 h2 h3
      have : regLen s = none := by
        rw [hn, hd (by omega), h2]
        by_cases g1 : x + 1 < s.length
        · rw [hd1 g1]
          by_cases g2 : x + 1 + 1 < s.length
          · rw [drop_cons g2, regLen_37, if_neg]
            · rfl
            · rintro ⟨k1, k2⟩
              rcases h3 with (h3 | h3) | h3
              · omega
              · rw [k1] at h3; cases h3
              · rw [k2] at h3; cases h3
          · rw [List.drop_eq_nil_of_le (by omega)]; rfl
        · rw [List.drop_eq_nil_of_le (by omega)]; rfl
      rw [h91, this]; rfl
    · rename_i h1 h2 h3 h4 h5
      refine ⟨x + 3, by omega, ⟨by omega, ?_⟩, by omega⟩
      rw [hn, hd (by omega), h2, hd1 (by omega), drop_cons (i := x + 1 + 1) (by omega), regLen_37, if_pos ⟨h4, h5⟩]
      cases regLen (s.drop (x + 1 + 1 + 1)) with
      | none => rfl
      | some k => simp; omega
    · rename_i h1 h2
      refine VL_inv (X := Nat × Bool) (fun y => ⟨[(0, .str s), (3, .int .i64 x), (4, .int .u8 (s.getD x 0).toNat), (5, .bool y.2), (6, .str hsigns), (7, .int .i64 y.1)], []⟩) (fun y => y.1 ≤ 15 ∧ y.2 = (alnumI (s.getD x 0).toNat || (hsigns.take y.1).any fun m => decide (m = s.getD x 0))) (fun y => 15 - y.1) (0, alnumI (s.getD x 0).toNat) ?_ ?_ ?_
      · simp only [go_sem, go_sem, seval]
        refine ⟨?_, rfl⟩
        rw [Bool.eq_iff_iff]
        simp only [alnumI, Bool.or_eq_true, Bool.and_eq_true, decide_eq_true_eq]
        omega
      · exact ⟨by simp, by simp⟩
      rintro ⟨y, is⟩ ⟨hy, hi⟩
      simp only at hy hi
      have hlen : hsigns.length = 15 := rfl
      simp (config := {maxSteps := 2000000}) only [T_specNameR, Go.Proofs.Tryd.Host.tb_specHexR, go_sem, seval]
      (try simp (config := {maxSteps := 2000000}) only [gimp, impB, isT, go_sem, seval])
      rw [hlen]
      (repeat' (first | refine And.intro ?_ ?_ | intro _))
      all_goals (try first | omega | assumption | contradiction)
      · rename_i h3
        refine ⟨(y + 1, is || decide (hsigns.getD y 0 = s.getD x 0)), ⟨rfl, by simp only; omega⟩, ⟨by simp only; omega, ?_⟩, by simp only; omega⟩
        simp only
        rw [hi, take_succ_getD 0 (by rw [hlen]; omega)]
        simp only [List.any_append, List.any_cons, List.any_nil, Bool.or_false, Bool.or_assoc]
      · rename_i h3 h4
        have hp : plainB (s.getD x 0) = false := by
          rw [← h4, hi, List.take_of_length_le (by rw [hlen]; omega)]
          simp only [plainB, plainI, Go.Abs.u8_inj]
        have : regLen s = some x := by
          rw [hn, hd (by omega), regLen_plain _ h2, if_neg (by rw [hp]; simp)]; simp
        rw [h91, this]; rfl
      · rename_i h3 h4
        have hp : plainB (s.getD x 0) = true := by
          rw [← h4, hi, List.take_of_length_le (by rw [hlen]; omega)]
          simp only [plainB, plainI, Go.Abs.u8_inj]
        refine ⟨x + 1, by omega, ⟨by omega, ?_⟩, by omega⟩
        rw [hn, hd (by omega), regLen_plain _ h2, if_pos hp]
        cases regLen (s.drop (x + 1)) with
        | none => rfl
        | some k => simp; omega
    · rename_i h1
      have : x = s.length := by omega
      subst this
      rw [h91, hn, List.drop_length]; simp [regLen]
def tb_specNameR : List Blk → List AV → Option (List Blk × AV × Prop)
  | [], [.str s] => some ([], .int .i64 (nameLen s), (s.length ≤ 1000000))
  | _, _ => none
theorem tb_specNameR_ok : ∀ E args E' res p, tb_specNameR E args = some (E', res, p) → p → SpecE Tryd.prog 31 E args E' res := by
  intro E args E' res p h hp
  unfold tb_specNameR at h
  split at h
  · simp only [Option.some.injEq, Prod.mk.injEq] at h
    obtain ⟨rfl, rfl, rfl⟩ := h
    exact (specNameR _ hp)
  · cases h
end Go.Proofs.Tryd.Host
