/- diff: the statements' walks. No condition beyond those that a machine's numbers bring. -/
import Derived.Test.YtlkfjkimnkhelaaDifR
set_option linter.unusedVariables false
set_option linter.unusedSimpArgs false
namespace Go.Mdl
open Go Go.Abs
def short1 (s : List UInt8) : Bool := decide (s.length ≤ 100)
def few25 (l : List (List UInt8)) : Bool := decide (l.length ≤ 25) && l.all short1
theorem few25_len {l : List (List UInt8)} (h : few25 l = true) : l.length ≤ 25 ∧ ∀ x ∈ l, x.length ≤ 100 := by
  simp only [few25, Bool.and_eq_true, decide_eq_true_eq, List.all_eq_true] at h
  refine ⟨h.1, fun f hf => ?_⟩
  have := h.2 f hf
  simpa only [short1, decide_eq_true_eq] using this
def wasS (l : List Rw) : List (List UInt8) := (l.filter fun r => decide (r.1 < 2)).map (·.2)
def nowS (l : List Rw) : List (List UInt8) := (l.filter fun r => !decide (r.1 = 1)).map (·.2)
def signB (r : Rw) : Bool := decide (0 ≤ r.1) && decide (r.1 ≤ 2)
theorem apply_bad : ∀ (l : List Rw) (a : List (List UInt8)), l.all signB = false → applyS a l = none
  | [], a, h => by simp at h
  | (s, t) :: r, a, h => by
    simp only [List.all_cons, Bool.and_eq_false_iff] at h
    by_cases hs : s < 0 ∨ 2 < s
    · exact applyS_bad a s t r hs
    · have hr : r.all signB = false := by
        rcases h with h | h
        · simp only [signB, Bool.and_eq_false_iff, decide_eq_false_iff_not] at h; omega
        · exact h
      have h3 : s = 0 ∨ s = 1 ∨ s = 2 := by omega
      rcases h3 with rfl | rfl | rfl
      · by_cases hf : a = [] ∨ ¬ a.getD 0 [] = t
        · exact applyS_fit a 0 t r (.inl rfl) hf
        · cases a with
          | nil => exact absurd (.inl rfl) hf
          | cons x a =>
            have : x = t := Classical.byContradiction fun e => hf (.inr e)
            subst this
            rw [applyS_same, apply_bad r a hr]; rfl
      · by_cases hf : a = [] ∨ ¬ a.getD 0 [] = t
        · exact applyS_fit a 1 t r (.inr rfl) hf
        · cases a with
          | nil => exact absurd (.inl rfl) hf
          | cons x a =>
            have : x = t := Classical.byContradiction fun e => hf (.inr e)
            subst this
            rw [applyS_gone, apply_bad r a hr]
      · rw [applyS_new, apply_bad r a hr]; rfl
theorem apply_good : ∀ (l : List Rw) (a : List (List UInt8)), l.all signB = true → applyS a l = if wasS l = a then some (nowS l) else none
  | [], a, _ => by
    cases a with
    | nil => rfl
    | cons x a => rw [if_neg (by simp [wasS])]; rfl
  | (s, t) :: r, a, h => by
    simp only [List.all_cons, Bool.and_eq_true] at h
    obtain ⟨h1, h2⟩ := h
    simp only [signB, Bool.and_eq_true, decide_eq_true_eq] at h1
    have h3 : s = 0 ∨ s = 1 ∨ s = 2 := by omega
    rcases h3 with rfl | rfl | rfl
    · have w : wasS ((0, t) :: r) = t :: wasS r := rfl
      have n : nowS ((0, t) :: r) = t :: nowS r := rfl
      rw [w, n]
      cases a with
      | nil => rw [applyS_fit [] 0 t r (.inl rfl) (.inl rfl), if_neg (by simp)]
      | cons x a =>
        by_cases e : x = t
        · subst e
          rw [applyS_same, apply_good r a h2]
          by_cases g : wasS r = a
          · rw [if_pos g, if_pos (by rw [g])]; rfl
          · rw [if_neg g, if_neg (fun h => g (by simpa using h))]; rfl
        · rw [applyS_fit (x :: a) 0 t r (.inl rfl) (.inr e), if_neg (fun h => e (by simp at h; exact h.1.symm))]
    · have w : wasS ((1, t) :: r) = t :: wasS r := rfl
      have n : nowS ((1, t) :: r) = nowS r := rfl
      rw [w, n]
      cases a with
      | nil => rw [applyS_fit [] 1 t r (.inr rfl) (.inl rfl), if_neg (by simp)]
      | cons x a =>
        by_cases e : x = t
        · subst e
          rw [applyS_gone, apply_good r a h2]
          by_cases g : wasS r = a
          · rw [if_pos g, if_pos (by rw [g])]
          · rw [if_neg g, if_neg (fun h => g (by simpa using h))]
        · rw [applyS_fit (x :: a) 1 t r (.inr rfl) (.inr e), if_neg (fun h => e (by simp at h; exact h.1.symm))]
    · have w : wasS ((2, t) :: r) = wasS r := rfl
      have n : nowS ((2, t) :: r) = t :: nowS r := rfl
      rw [w, n, applyS_new, apply_good r a h2]
      by_cases g : wasS r = a
      · rw [if_pos g, if_pos g]; rfl
      · rw [if_neg g, if_neg g]; rfl
theorem was_snoc (l : List Rw) (r : Rw) : wasS (l ++ [r]) = wasS l ++ if r.1 < 2 then [r.2] else [] := by
  by_cases h : r.1 < 2 <;> simp [wasS, h]
theorem now_snoc (l : List Rw) (r : Rw) : nowS (l ++ [r]) = nowS l ++ if r.1 = 1 then [] else [r.2] := by
  by_cases h : r.1 = 1 <;> simp [nowS, h]
theorem apply_some_len {a o : List (List UInt8)} {l : List Rw} (h : applyS a l = some o) : o.length ≤ l.length := by
  cases hb : l.all signB with
  | false => rw [apply_bad l a hb] at h; cases h
  | true =>
    rw [apply_good l a hb] at h
    split at h
    · cases h
      simp only [nowS, List.length_map]; exact List.length_filter_le _ _
    · cases h
theorem turn_get {l : List Rw} {j : Nat} (h : j < l.length) : (turnS l).getD j (0, []) = (if (l.getD j (0, [])).1 = 1 then 2 else if (l.getD j (0, [])).1 = 2 then 1 else (l.getD j (0, [])).1, (l.getD j (0, [])).2) := by
  simp [turnS, List.getD_eq_getElem?_getD, List.getElem?_map, List.getElem?_eq_getElem h]
theorem was_len (l : List Rw) : (wasS l).length ≤ l.length := by simp only [wasS, List.length_map]; exact List.length_filter_le _ _
theorem now_len (l : List Rw) : (nowS l).length ≤ l.length := by simp only [nowS, List.length_map]; exact List.length_filter_le _ _
end Go.Mdl
namespace Go.Proofs.Try.Dif
open Go Go.Abs Go.Proofs Go.Mdl

def T_specFew : Tbl := fun g E args => nilT g E args
theorem T_specFew_ok : TblOK Try.prog T_specFew := nilT_ok
set_option maxRecDepth 100000 in
set_option maxHeartbeats 4000000 in
theorem specFew (l : List (List UInt8)) (h : l.length ≤ maxLen) : SpecE Try.prog 8 [] [enc_strs l] [] (.bool (few25 l)) := by
  refine specF0 (C := T_specFew) (wr := false) (D := fun _ => []) (U := fun _ => none) (res := [.bool (few25 l)]) Try.Ty.mixed T_specFew_ok Try.func8 (nA := 1) (by decide +kernel) rfl (fun _ => rfl) ?_
  simp only [Try.f8, bodyOf, rlOf]
  rw [W_V]
  simp (config := {maxSteps := 2000000}) only [T_specFew, go_sem, seval]
  (try simp (config := {maxSteps := 2000000}) only [gimp, impB, isT, go_sem, seval])
  refine ⟨fun h => by simp [few25]; omega, fun h40 => ?_⟩
  refine VL_inv (X := Nat) (fun k => ⟨[(8, enc_strs l), (9, .int .i64 l.length), (10, .int .i64 k)], []⟩) (fun k => k ≤ l.length ∧ (l.take k).all short1 = true) (fun k => l.length - k) 0 ?_ ?_ ?_
  · simp only [T_specFew, go_sem, seval]
    try rfl
  · exact ⟨Nat.zero_le _, by simp⟩
  rintro k ⟨hk, hn⟩
  simp (config := {maxSteps := 2000000}) only [T_specFew, go_sem, seval]
  (try simp (config := {maxSteps := 2000000}) only [gimp, impB, isT, go_sem, seval])
  have hmem : k < l.length → l.getD k [] ∈ l := fun h => List.mem_of_getElem? (getD_of_lt (s := l) (d := []) h)
  refine ⟨fun hlt => ⟨by omega, fun hg => ?_, fun hg => ⟨by omega, k + 1, by omega, ⟨by omega, ?_⟩, by omega⟩⟩, fun hge => ?_⟩
  · have hs : short1 (l.getD k []) = false := by rw [short1, decide_eq_false_iff_not]; omega
    have : l.all short1 = false := List.all_eq_false.2 ⟨_, hmem (by omega), by rw [hs]; simp⟩
    simp [few25, this]
  · rw [take_succ_getD [] (by omega), List.all_append, hn]
    simp only [List.all_cons, List.all_nil, Bool.and_true, Bool.true_and, short1, decide_eq_true_eq]
    omega
  · have : k = l.length := by omega
    subst this
    rw [List.take_length] at hn
    simp [few25, hn]; omega
def tb_specFew : List Blk → List AV → Option (List Blk × AV × Prop)
  | [], [a0] => some ([], .bool (few25 (dec_strs a0)), ((dec_strs a0).length ≤ maxLen) ∧ argOK a0 (enc_strs (dec_strs a0)))
  | _, _ => none
theorem tb_specFew_ok : ∀ E args E' res p, tb_specFew E args = some (E', res, p) → p → SpecE Try.prog 8 E args E' res := by
  intro E args E' res p h hp
  unfold tb_specFew at h
  split at h
  · simp only [Option.some.injEq, Prod.mk.injEq] at h
    obtain ⟨rfl, rfl, rfl⟩ := h
    exact SpecE.args (specFew _ hp.1) (.cons hp.2 .nil)
  · cases h

def T_specSame : Tbl := fun g E args => nilT g E args
theorem T_specSame_ok : TblOK Try.prog T_specSame := nilT_ok
set_option maxRecDepth 100000 in
set_option maxHeartbeats 4000000 in
theorem specSame (a b : List Rw) (h : a.length ≤ 2147483647) : SpecE Try.prog 10 [] [enc_rws a, enc_rws b] [] (.bool (decide (a = b))) := by
  refine specF0 (C := T_specSame) (wr := false) (D := fun _ => []) (U := fun _ => none) (res := [.bool (decide (a = b))]) Try.Ty.mixed T_specSame_ok Try.func10 (nA := 2) (by decide +kernel) rfl (fun _ => rfl) ?_
  simp only [Try.f10, bodyOf, rlOf]
  rw [W_V]
  simp (config := {maxSteps := 2000000}) only [T_specSame, go_sem, seval]
  (try simp (config := {maxSteps := 2000000}) only [gimp, impB, isT, go_sem, seval])
  refine ⟨fun hne => ?_, fun heq => ?_⟩
  · symm; rw [decide_eq_false_iff_not]; rintro rfl; exact hne rfl
  have hl : a.length = b.length := by omega
  refine VL_inv (X := Nat) (fun x => ⟨[(0, enc_rws a), (1, enc_rws b), (12, .int .i64 a.length), (13, .int .i64 x)], []⟩) (fun x => x ≤ a.length ∧ a.take x = b.take x) (fun x => a.length - x) 0 ?_ ?_ ?_
  · simp only [go_sem, go_sem, seval]
    try rfl
  · exact ⟨Nat.zero_le _, by simp⟩
  rintro x ⟨hx, hn⟩
  simp (config := {maxSteps := 2000000}) only [T_specSame, go_sem, seval]
  (try simp (config := {maxSteps := 2000000}) only [gimp, impB, isT, go_sem, seval])
  refine ⟨fun hlt => ?_, fun hge => ?_⟩
  · obtain ⟨h1, h2⟩ := same_step (a := a) (b := b) (x := x) (0, []) hl (by omega) hn
    refine ⟨by omega, by omega, ⟨fun _ => by omega, fun _ => by omega⟩, ⟨fun _ => by omega, fun _ => by omega⟩, fun he => ?_, fun e1 e2 => ⟨by omega, x + 1, by omega, ⟨by omega, h1 (Prod.ext e1 e2)⟩, by omega⟩⟩
    have : a ≠ b := h2 (fun e => by rw [e] at he; simp at he)
    simp [this]
  · have : x = a.length := by omega
    subst this
    rw [List.take_length, hl, List.take_length] at hn
    simp [hn]
def tb_specSame : List Blk → List AV → Option (List Blk × AV × Prop)
  | [], [a0, a1] => some ([], .bool (decide ((dec_rws a0) = (dec_rws a1))), ((dec_rws a0).length ≤ 2147483647) ∧ argOK a0 (enc_rws (dec_rws a0)) ∧ argOK a1 (enc_rws (dec_rws a1)))
  | _, _ => none
theorem tb_specSame_ok : ∀ E args E' res p, tb_specSame E args = some (E', res, p) → p → SpecE Try.prog 10 E args E' res := by
  intro E args E' res p h hp
  unfold tb_specSame at h
  split at h
  · simp only [Option.some.injEq, Prod.mk.injEq] at h
    obtain ⟨rfl, rfl, rfl⟩ := h
    exact SpecE.args (specSame _ _ hp.1) (.cons hp.2.1 (.cons hp.2.2 .nil))
  · cases h

def T_specApplyR : Tbl := fun g E args => (addT nilT 16 Go.Proofs.Try.Oct.tb_specSame) g E args
theorem T_specApplyR_ok : TblOK Try.prog T_specApplyR := (addT_ok nilT_ok (by decide +kernel) Go.Proofs.Try.Oct.tb_specSame_ok)
set_option maxRecDepth 100000 in
set_option maxHeartbeats 4000000 in
theorem specApplyR (a : List (List UInt8)) (l : List Rw) (ha : a.length ≤ 1000000) (hl : l.length ≤ 1000000) : SpecE Try.prog 14 [] [enc_strs a, enc_rws l] [] (.tuple [enc_strs (apV a l), .bool (apOk a l)]) := by
  refine specF0 (C := T_specApplyR) (wr := false) (D := fun _ => []) (U := fun _ => none) (res := [enc_strs (apV a l), .bool (apOk a l)]) Try.Ty.mixed T_specApplyR_ok Try.func14 (nA := 2) (by decide +kernel) rfl (fun _ => rfl) ?_
  simp only [Try.f14, bodyOf, rlOf]
  rw [W_V]
  simp (config := {maxSteps := 2000000}) only [T_specApplyR, Go.Proofs.Try.Oct.tb_specSame, go_sem, seval]
  (try simp (config := {maxSteps := 2000000}) only [gimp, impB, isT, go_sem, seval])
  refine VL_inv (X := Nat) (fun j => ⟨[(0, enc_strs a), (1, enc_rws l), (6, .ref 160 0 (wasS (l.take j)).length (wasS (l.take j)).length), (7, .ref 176 0 (nowS (l.take j)).length (nowS (l.take j)).length), (8, .int .i64 j)], [(160, .cells 1 false (.str []) ((wasS (l.take j)).map .str)), (176, .cells 1 false (.str []) ((nowS (l.take j)).map .str))]⟩) (fun j => j ≤ l.length ∧ (l.take j).all signB = true) (fun j => l.length - j) 0 ?_ ?_ ?_
  · simp only [T_specApplyR, Go.Proofs.Try.Oct.tb_specSame, go_sem, seval]
    exact ⟨⟨rfl, rfl⟩, rfl, rfl⟩
  · exact ⟨Nat.zero_le _, by simp⟩
  rintro j ⟨hj, hs⟩
  simp (config := {maxSteps := 2000000}) only [T_specApplyR, Go.Proofs.Try.Oct.tb_specSame, go_sem, seval]
  (try simp (config := {maxSteps := 2000000}) only [gimp, impB, isT, go_sem, seval])
  have w1 := was_len (l.take j)
  have w2 := now_len (l.take j)
  rw [List.length_take] at w1 w2
  have sn : ∀ (o : List (List UInt8)) t, o.map AV.str ++ [AV.str t] = (o ++ [t]).map AV.str := fun o t => by rw [List.map_append]; rfl
  simp only [sn]
  refine ⟨fun hlt => ?_, fun hge => ?_⟩
  · have e := take_succ_getD (s := l) (x := j) (0, []) (by omega)
    have mem : l.getD j (0, []) ∈ l := List.mem_of_getElem? (getD_of_lt (s := l) (d := (0, [])) (by omega))
    rcases hr : l.getD j (0, []) with ⟨s, t⟩
    rw [hr] at e mem
    simp only
    have nx : 0 ≤ s → s ≤ 2 → (l.take (j + 1)).all signB = true := fun g1 g2 => by rw [e, List.all_append, hs]; simp [signB, g1, g2]
    have ew : wasS (l.take (j + 1)) = wasS (l.take j) ++ if s < 2 then [t] else [] := by rw [e, was_snoc]
    have en : nowS (l.take (j + 1)) = nowS (l.take j) ++ if s = 1 then [] else [t] := by rw [e, now_snoc]
    refine ⟨by omega, ⟨fun _ => by omega, fun _ => by omega⟩, fun hb => ?_, fun g1 g2 => ⟨by omega, fun g3 => ⟨by omega, by omega, by omega, fun g4 => ⟨by omega, by omega, by omega, j + 1, ?_, ⟨by omega, nx g1 g2⟩, by omega⟩, fun g4 => ⟨by omega, j + 1, ?_, ⟨by omega, nx g1 g2⟩, by omega⟩⟩, fun g3 => ⟨by omega, fun g4 => ⟨by omega, by omega, by omega, j + 1, ?_, ⟨by omega, nx g1 g2⟩, by omega⟩, fun g4 => by omega⟩⟩⟩
    · have hbad : l.all signB = false := List.all_eq_false.2 ⟨_, mem, by simp [signB]; omega⟩
      rw [(apN (apply_bad l a hbad)).1, (apN (apply_bad l a hbad)).2]; exact ⟨rfl, rfl⟩
    · rw [ew, en, if_pos g3, if_neg g4]
      exact ⟨⟨by simp, by simp, by omega⟩, rfl, rfl⟩
    · rw [ew, en, if_pos g3, if_pos g4, List.append_nil]
      exact ⟨⟨by simp, rfl, by omega⟩, rfl, rfl⟩
    · rw [ew, en, if_neg (by omega), if_neg g4, List.append_nil]
      exact ⟨⟨rfl, by simp, by omega⟩, rfl, rfl⟩
  · have e : j = l.length := by omega
    subst e
    rw [List.take_length] at hs
    have ag := apply_good l a hs
    rw [List.take_length, List.take_length]
    refine ⟨by have := was_len l; omega, fun g => ?_, fun g => ?_⟩
    · rw [if_neg g] at ag
      rw [(apN ag).1, (apN ag).2]; exact ⟨rfl, rfl⟩
    · rw [if_pos g] at ag
      rw [(apS ag).1, (apS ag).2, List.take_length]; exact ⟨rfl, rfl⟩
def tb_specApplyR : List Blk → List AV → Option (List Blk × AV × Prop)
  | [], [a0, a1] => some ([], .tuple [enc_strs (apV (dec_strs a0) (dec_rws a1)), .bool (apOk (dec_strs a0) (dec_rws a1))], ((dec_strs a0).length ≤ 1000000) ∧ ((dec_rws a1).length ≤ 1000000) ∧ argOK a0 (enc_strs (dec_strs a0)) ∧ argOK a1 (enc_rws (dec_rws a1)))
  | _, _ => none
theorem tb_specApplyR_ok : ∀ E args E' res p, tb_specApplyR E args = some (E', res, p) → p → SpecE Try.prog 14 E args E' res := by
  intro E args E' res p h hp
  unfold tb_specApplyR at h
  split at h
  · simp only [Option.some.injEq, Prod.mk.injEq] at h
    obtain ⟨rfl, rfl, rfl⟩ := h
    exact SpecE.args (specApplyR _ _ hp.1 hp.2.1) (.cons hp.2.2.1 (.cons hp.2.2.2 .nil))
  · cases h

theorem lines_ex : linesS [[(97 : UInt8)], [98]] [[98], [99]] = [(1, [97]), (0, [98]), (2, [99])] := by
  simp [linesS_cc, linesS_nc, linesS_nn, lcs_cons, lcs_nil, lcs_nil']
def T_specLives : Tbl := fun g E args => (addT (addT nilT 11 Go.Proofs.Try.Dif.tb_specLines) 10 Go.Proofs.Try.Dif.tb_specSame) g E args
theorem T_specLives_ok : TblOK Try.prog T_specLives := (addT_ok (addT_ok nilT_ok (by decide +kernel) Go.Proofs.Try.Dif.tb_specLines_ok) (by decide +kernel) Go.Proofs.Try.Dif.tb_specSame_ok)
set_option maxRecDepth 100000 in
set_option maxHeartbeats 4000000 in
theorem specLives : SpecE Try.prog 9 [] [] [] (.bool true) := by
  refine specF0 (C := T_specLives) (wr := false) (D := fun _ => []) (U := fun _ => none) (res := [.bool true]) Try.Ty.mixed T_specLives_ok Try.func9 (nA := 0) (by decide +kernel) rfl (fun _ => rfl) ?_
  simp only [Try.f9, bodyOf, rlOf]
  rw [W_V]
  simp (config := {maxSteps := 2000000}) only [T_specLives, Go.Proofs.Try.Dif.tb_specLines, Go.Proofs.Try.Dif.tb_specSame, go_sem, seval]
  (try simp (config := {maxSteps := 2000000}) only [gimp, impB, isT, go_sem, seval])
  exact ⟨⟨by rw [lines_ex]; decide, rfl⟩, lines_ex⟩
def tb_specLives : List Blk → List AV → Option (List Blk × AV × Prop)
  | [], [] => some ([], .bool true, True)
  | _, _ => none
theorem tb_specLives_ok : ∀ E args E' res p, tb_specLives E args = some (E', res, p) → p → SpecE Try.prog 9 E args E' res := by
  intro E args E' res p h hp
  unfold tb_specLives at h
  split at h
  · simp only [Option.some.injEq, Prod.mk.injEq] at h
    obtain ⟨rfl, rfl, rfl⟩ := h
    exact specLives
  · cases h

def T_specLawLines : Tbl := fun g E args => (addT (addT (addT (addT (addT nilT 8 Go.Proofs.Try.Dif.tb_specFew) 11 Go.Proofs.Try.Dif.tb_specLines) 12 Go.Proofs.Try.Dif.tb_specLinesR) 10 Go.Proofs.Try.Dif.tb_specSame) 9 Go.Proofs.Try.Dif.tb_specLives) g E args
theorem T_specLawLines_ok : TblOK Try.prog T_specLawLines := (addT_ok (addT_ok (addT_ok (addT_ok (addT_ok nilT_ok (by decide +kernel) Go.Proofs.Try.Dif.tb_specFew_ok) (by decide +kernel) Go.Proofs.Try.Dif.tb_specLines_ok) (by decide +kernel) Go.Proofs.Try.Dif.tb_specLinesR_ok) (by decide +kernel) Go.Proofs.Try.Dif.tb_specSame_ok) (by decide +kernel) Go.Proofs.Try.Dif.tb_specLives_ok)
set_option maxRecDepth 100000 in
set_option maxHeartbeats 4000000 in
theorem specLawLines (a b : List (List UInt8)) (ha : a.length ≤ maxLen) (hb : b.length ≤ maxLen) : SpecE Try.prog 3 [] [enc_strs a, enc_strs b] [] (.bool true) := by
  refine specF0 (C := T_specLawLines) (wr := false) (D := fun _ => []) (U := fun _ => none) (res := [.bool true]) Try.Ty.mixed T_specLawLines_ok Try.func3 (nA := 2) (by decide +kernel) rfl (fun _ => rfl) ?_
  simp only [Try.f3, bodyOf, rlOf]
  rw [W_V]
  simp (config := {maxSteps := 2000000}) only [T_specLawLines, Go.Proofs.Try.Dif.tb_specFew, Go.Proofs.Try.Dif.tb_specLines, Go.Proofs.Try.Dif.tb_specLinesR, Go.Proofs.Try.Dif.tb_specSame, Go.Proofs.Try.Dif.tb_specLives, go_sem, seval]
  (try simp (config := {maxSteps := 2000000}) only [gimp, impB, isT, go_sem, seval])
  refine ⟨ha, fun _ => hb, fun h1 h2 => ?_⟩
  have k1 := (few25_len h1).1
  have k2 := (few25_len h2).1
  have := linesS_len _ a b (Nat.le_refl _)
  exact ⟨⟨by omega, by omega⟩, ⟨by omega, by omega⟩, by omega⟩
def tb_specLawLines : List Blk → List AV → Option (List Blk × AV × Prop)
  | [], [a0, a1] => some ([], .bool true, ((dec_strs a0).length ≤ maxLen) ∧ ((dec_strs a1).length ≤ maxLen) ∧ argOK a0 (enc_strs (dec_strs a0)) ∧ argOK a1 (enc_strs (dec_strs a1)))
  | _, _ => none
theorem tb_specLawLines_ok : ∀ E args E' res p, tb_specLawLines E args = some (E', res, p) → p → SpecE Try.prog 3 E args E' res := by
  intro E args E' res p h hp
  unfold tb_specLawLines at h
  split at h
  · simp only [Option.some.injEq, Prod.mk.injEq] at h
    obtain ⟨rfl, rfl, rfl⟩ := h
    exact SpecE.args (specLawLines _ _ hp.1 hp.2.1) (.cons hp.2.2.1 (.cons hp.2.2.2 .nil))
  · cases h

def T_specLawBack : Tbl := fun g E args => (addT (addT (addT (addT (addT (addT nilT 8 Go.Proofs.Try.Dif.tb_specFew) 11 Go.Proofs.Try.Dif.tb_specLines) 13 Go.Proofs.Try.Dif.tb_specApply) 15 Go.Proofs.Try.Dif.tb_specTurn) 9 Go.Proofs.Try.Dif.tb_specLives) 16 Go.Proofs.Try.Oct.tb_specSame) g E args
theorem T_specLawBack_ok : TblOK Try.prog T_specLawBack := (addT_ok (addT_ok (addT_ok (addT_ok (addT_ok (addT_ok nilT_ok (by decide +kernel) Go.Proofs.Try.Dif.tb_specFew_ok) (by decide +kernel) Go.Proofs.Try.Dif.tb_specLines_ok) (by decide +kernel) Go.Proofs.Try.Dif.tb_specApply_ok) (by decide +kernel) Go.Proofs.Try.Dif.tb_specTurn_ok) (by decide +kernel) Go.Proofs.Try.Dif.tb_specLives_ok) (by decide +kernel) Go.Proofs.Try.Oct.tb_specSame_ok)
set_option maxRecDepth 100000 in
set_option maxHeartbeats 4000000 in
theorem specLawBack (a b : List (List UInt8)) (ha : a.length ≤ maxLen) (hb : b.length ≤ maxLen) : SpecE Try.prog 5 [] [enc_strs a, enc_strs b] [] (.bool true) := by
  refine specF0 (C := T_specLawBack) (wr := false) (D := fun _ => []) (U := fun _ => none) (res := [.bool true]) Try.Ty.mixed T_specLawBack_ok Try.func5 (nA := 2) (by decide +kernel) rfl (fun _ => rfl) ?_
  simp only [Try.f5, bodyOf, rlOf]
  rw [W_V]
  simp (config := {maxSteps := 2000000}) only [T_specLawBack, Go.Proofs.Try.Dif.tb_specFew, Go.Proofs.Try.Dif.tb_specLines, Go.Proofs.Try.Dif.tb_specApply, Go.Proofs.Try.Dif.tb_specTurn, Go.Proofs.Try.Dif.tb_specLives, Go.Proofs.Try.Oct.tb_specSame, go_sem, seval]
  (try simp (config := {maxSteps := 2000000}) only [gimp, impB, isT, go_sem, seval])
  refine ⟨ha, fun _ => hb, fun h1 h2 => ?_⟩
  have k1 := (few25_len h1).1
  have k2 := (few25_len h2).1
  have k3 := linesS_len _ a b (Nat.le_refl _)
  obtain ⟨q1, q2⟩ := apply_lines _ a b (Nat.le_refl _)
  have k4 := turnS_len (linesS a b)
  obtain ⟨p1, p2⟩ := apS q1
  obtain ⟨p3, p4⟩ := apS q2
  refine ⟨⟨by omega, by omega⟩, ⟨by omega, by omega⟩, by omega, ⟨by omega, by omega⟩, fun _ _ => by rw [p1]; omega, fun _ _ _ => by rw [p3]; omega, ⟨fun _ _ _ _ => by omega, fun _ _ _ _ => by omega⟩, fun h => ?_, fun _ _ _ _ _ => ⟨by omega, ?_⟩⟩
  · rw [p1, p2, p3, p4] at h
    rcases h with (((h | h) | h) | h) | h
    · cases h
    · cases h
    · exact h rfl
    · exact h rfl
    · omega
  rw [lines_own]
  refine VL_inv (X := Nat) (fun j => ⟨[(0, enc_strs a), (10, enc_rws (a.map fun x => (0, x))), (69, enc_rws (a.map fun x => (0, x))), (70, .int .i64 a.length), (71, .int .i64 j)], []⟩) (fun j => j ≤ a.length) (fun j => a.length - j) 0 ?_ ?_ ?_
  · simp only [T_specLawBack, Go.Proofs.Try.Dif.tb_specFew, Go.Proofs.Try.Dif.tb_specLines, Go.Proofs.Try.Dif.tb_specApply, Go.Proofs.Try.Dif.tb_specTurn, Go.Proofs.Try.Dif.tb_specLives, Go.Proofs.Try.Oct.tb_specSame, go_sem, seval]
    try simp
  · exact Nat.zero_le _
  intro j hj
  simp (config := {maxSteps := 2000000}) only [T_specLawBack, Go.Proofs.Try.Dif.tb_specFew, Go.Proofs.Try.Dif.tb_specLines, Go.Proofs.Try.Dif.tb_specApply, Go.Proofs.Try.Dif.tb_specTurn, Go.Proofs.Try.Dif.tb_specLives, Go.Proofs.Try.Oct.tb_specSame, go_sem, seval]
  (try simp (config := {maxSteps := 2000000}) only [gimp, impB, isT, go_sem, seval])
  have hg : j < a.length → ((a.map fun x => ((0 : Int), x)).getD j (0, [])).1 = 0 := fun h => by
    simp [List.getD_eq_getElem?_getD, List.getElem?_eq_getElem h]
  exact fun hlt => ⟨by omega, fun h => h (hg (by omega)), fun _ => ⟨by omega, j + 1, by omega, by omega, by omega⟩⟩
def tb_specLawBack : List Blk → List AV → Option (List Blk × AV × Prop)
  | [], [a0, a1] => some ([], .bool true, ((dec_strs a0).length ≤ maxLen) ∧ ((dec_strs a1).length ≤ maxLen) ∧ argOK a0 (enc_strs (dec_strs a0)) ∧ argOK a1 (enc_strs (dec_strs a1)))
  | _, _ => none
theorem tb_specLawBack_ok : ∀ E args E' res p, tb_specLawBack E args = some (E', res, p) → p → SpecE Try.prog 5 E args E' res := by
  intro E args E' res p h hp
  unfold tb_specLawBack at h
  split at h
  · simp only [Option.some.injEq, Prod.mk.injEq] at h
    obtain ⟨rfl, rfl, rfl⟩ := h
    exact SpecE.args (specLawBack _ _ hp.1 hp.2.1) (.cons hp.2.2.1 (.cons hp.2.2.2 .nil))
  · cases h

def T_specLawApplies : Tbl := fun g E args => (addT (addT (addT (addT (addT (addT nilT 8 Go.Proofs.Try.Dif.tb_specFew) 13 Go.Proofs.Try.Dif.tb_specApply) 14 Go.Proofs.Try.Dif.tb_specApplyR) 15 Go.Proofs.Try.Dif.tb_specTurn) 9 Go.Proofs.Try.Dif.tb_specLives) 16 Go.Proofs.Try.Oct.tb_specSame) g E args
theorem T_specLawApplies_ok : TblOK Try.prog T_specLawApplies := (addT_ok (addT_ok (addT_ok (addT_ok (addT_ok (addT_ok nilT_ok (by decide +kernel) Go.Proofs.Try.Dif.tb_specFew_ok) (by decide +kernel) Go.Proofs.Try.Dif.tb_specApply_ok) (by decide +kernel) Go.Proofs.Try.Dif.tb_specApplyR_ok) (by decide +kernel) Go.Proofs.Try.Dif.tb_specTurn_ok) (by decide +kernel) Go.Proofs.Try.Dif.tb_specLives_ok) (by decide +kernel) Go.Proofs.Try.Oct.tb_specSame_ok)
set_option maxRecDepth 100000 in
set_option maxHeartbeats 4000000 in
theorem specLawApplies (a : List (List UInt8)) (l : List Rw) (ha : a.length ≤ maxLen) (hl : l.length ≤ maxLen) (hq : ∀ r ∈ l, inR .i64 r.1 ∧ r.2.length ≤ maxLen) : SpecE Try.prog 4 [] [enc_strs a, enc_rws l] [] (.bool true) := by
  refine specF0 (C := T_specLawApplies) (wr := false) (D := fun _ => []) (U := fun _ => none) (res := [.bool true]) Try.Ty.mixed T_specLawApplies_ok Try.func4 (nA := 2) (by decide +kernel) rfl (fun _ => rfl) ?_
  simp only [Try.f4, bodyOf, rlOf]
  rw [W_V]
  simp (config := {maxSteps := 2000000}) only [T_specLawApplies, Go.Proofs.Try.Dif.tb_specFew, Go.Proofs.Try.Dif.tb_specApply, Go.Proofs.Try.Dif.tb_specApplyR, Go.Proofs.Try.Dif.tb_specTurn, Go.Proofs.Try.Dif.tb_specLives, Go.Proofs.Try.Oct.tb_specSame, go_sem, seval]
  (try simp (config := {maxSteps := 2000000}) only [gimp, impB, isT, go_sem, seval])
  refine ⟨ha, fun h1 h2 => ?_⟩
  have k1 := (few25_len h1).1
  refine VL_inv (X := Nat) (fun j => ⟨[(0, enc_strs a), (1, enc_rws l), (5, .ref 400 0 j j), (25, enc_rws l), (26, .int .i64 l.length), (27, .int .i64 j)], [(400, .cells 2 false (.agg [.int .i64 0, .str []]) ((l.take j).map enc_rw))]⟩) (fun j => j ≤ l.length) (fun j => l.length - j) 0 ?_ ?_ ?_
  · simp only [T_specLawApplies, Go.Proofs.Try.Dif.tb_specFew, Go.Proofs.Try.Dif.tb_specApply, Go.Proofs.Try.Dif.tb_specApplyR, Go.Proofs.Try.Dif.tb_specTurn, Go.Proofs.Try.Dif.tb_specLives, Go.Proofs.Try.Oct.tb_specSame, go_sem, seval]
    try rfl
  · exact Nat.zero_le _
  intro j hj
  simp (config := {maxSteps := 2000000}) only [T_specLawApplies, Go.Proofs.Try.Dif.tb_specFew, Go.Proofs.Try.Dif.tb_specApply, Go.Proofs.Try.Dif.tb_specApplyR, Go.Proofs.Try.Dif.tb_specTurn, Go.Proofs.Try.Dif.tb_specLives, Go.Proofs.Try.Oct.tb_specSame, go_sem, seval]
  (try simp (config := {maxSteps := 2000000}) only [gimp, impB, isT, go_sem, seval])
  refine ⟨fun hlt => ⟨by omega, fun _ => ⟨⟨by rw [List.length_take]; omega, by omega, by omega⟩, by omega, j + 1, ⟨⟨rfl, by omega⟩, ?_⟩, by omega, by omega⟩⟩, fun hge => ?_⟩
  · rw [take_succ_getD (s := l) (x := j) (0, []) (by omega), List.map_append]; rfl
  have e : j = l.length := by omega
  subst e
  rw [List.take_length, List.take_length]
  have tl := turnS_len l
  refine ⟨⟨by omega, by omega⟩, ⟨rfl, by omega, by omega⟩, by omega, fun h => h (by omega), fun _ => ?_⟩
  refine VL_inv (X := Nat) (fun j => ⟨[(1, enc_rws l), (8, enc_strs (apV a l)), (9, .bool (apOk a l)), (10, enc_strs (apV a l)), (11, .bool (apOk a l)), (12, enc_rws (turnS l)), (64, enc_rws (turnS l)), (65, .int .i64 l.length), (66, .int .i64 j)], []⟩) (fun j => j ≤ l.length) (fun j => l.length - j) 0 ?_ ?_ ?_
  · simp only [T_specLawApplies, Go.Proofs.Try.Dif.tb_specFew, Go.Proofs.Try.Dif.tb_specApply, Go.Proofs.Try.Dif.tb_specApplyR, Go.Proofs.Try.Dif.tb_specTurn, Go.Proofs.Try.Dif.tb_specLives, Go.Proofs.Try.Oct.tb_specSame, go_sem, seval]
    try simp [tl]
  · exact Nat.zero_le _
  intro j hj2
  simp (config := {maxSteps := 2000000}) only [T_specLawApplies, Go.Proofs.Try.Dif.tb_specFew, Go.Proofs.Try.Dif.tb_specApply, Go.Proofs.Try.Dif.tb_specApplyR, Go.Proofs.Try.Dif.tb_specTurn, Go.Proofs.Try.Dif.tb_specLives, Go.Proofs.Try.Oct.tb_specSame, go_sem, seval]
  (try simp (config := {maxSteps := 2000000}) only [gimp, impB, isT, go_sem, seval])
  refine ⟨fun hlt => ?_, fun _ => ?_⟩
  · have tg := turn_get (l := l) (j := j) (by omega)
    rcases hr : l.getD j (0, []) with ⟨s, t⟩
    rw [hr] at tg
    simp only at tg
    rw [tg, tl]
    simp only
    by_cases s1 : s = 1
    · subst s1
      simp only [if_true]
      (repeat' (first | refine And.intro ?_ ?_ | intro _))
      all_goals (try first | omega | assumption | contradiction)
      all_goals first
        | (rename_i h; simp at h; done)
        | exact ⟨j + 1, by omega, by omega, by omega⟩
    · by_cases s2 : s = 2
      · subst s2
        simp only [if_neg s1, if_true]
        (repeat' (first | refine And.intro ?_ ?_ | intro _))
        all_goals (try first | omega | assumption | contradiction)
        all_goals first
          | (rename_i h; simp at h; done)
          | exact ⟨j + 1, by omega, by omega, by omega⟩
      · simp only [if_neg s1, if_neg s2]
        (repeat' (first | refine And.intro ?_ ?_ | intro _))
        all_goals (try first | omega | assumption | contradiction)
        all_goals first
          | (rename_i h; simp [s1, s2] at h; done)
          | exact ⟨j + 1, by omega, by omega, by omega⟩
  · cases ha : applyS a l with
    | none => rw [(apN ha).1]; simp
    | some o => rw [(apS ha).1]; have := apply_some_len ha; omega
def tb_specLawApplies : List Blk → List AV → Option (List Blk × AV × Prop)
  | [], [a0, a1] => some ([], .bool true, ((dec_strs a0).length ≤ maxLen) ∧ ((dec_rws a1).length ≤ maxLen) ∧ (∀ r ∈ (dec_rws a1), inR .i64 r.1 ∧ r.2.length ≤ maxLen) ∧ argOK a0 (enc_strs (dec_strs a0)) ∧ argOK a1 (enc_rws (dec_rws a1)))
  | _, _ => none
theorem tb_specLawApplies_ok : ∀ E args E' res p, tb_specLawApplies E args = some (E', res, p) → p → SpecE Try.prog 4 E args E' res := by
  intro E args E' res p h hp
  unfold tb_specLawApplies at h
  split at h
  · simp only [Option.some.injEq, Prod.mk.injEq] at h
    obtain ⟨rfl, rfl, rfl⟩ := h
    exact SpecE.args (specLawApplies _ _ hp.1 hp.2.1 hp.2.2.1) (.cons hp.2.2.2.1 (.cons hp.2.2.2.2 .nil))
  · cases h
end Go.Proofs.Try.Dif
