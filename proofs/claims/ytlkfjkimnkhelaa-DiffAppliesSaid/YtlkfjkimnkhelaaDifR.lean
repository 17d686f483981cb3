/- diff: the walks of the document's answer, Turn, Apply. No condition beyond those that a machine's numbers bring. -/
import Derived.Test.YtlkfjkimnkhelaaDif
set_option linter.unusedVariables false
set_option linter.unusedSimpArgs false
namespace Go.Proofs.Try.Dif
open Go Go.Abs Go.Proofs Go.Mdl

def T_specLinesR : Tbl := fun g E args => (addT nilT 27 Go.Proofs.Try.Dif.tb_specLong) g E args
theorem T_specLinesR_ok : TblOK Try.prog T_specLinesR := (addT_ok nilT_ok (by decide +kernel) Go.Proofs.Try.Dif.tb_specLong_ok)
set_option maxRecDepth 100000 in
set_option maxHeartbeats 4000000 in
theorem specLinesR (a b : List (List UInt8)) (ha : a.length ≤ 100000) (hb : b.length ≤ 100000) : SpecE Try.prog 12 [] [enc_strs a, enc_strs b] [] (enc_rws (linesS a b)) := by
  refine specF0 (C := T_specLinesR) (wr := false) (D := fun _ => []) (U := fun _ => none) (res := [enc_rws (linesS a b)]) Try.Ty.mixed T_specLinesR_ok Try.func12 (nA := 2) (by decide +kernel) rfl (fun _ => rfl) ?_
  simp only [Try.f12, bodyOf, rlOf]
  rw [W_V]
  simp (config := {maxSteps := 2000000}) only [T_specLinesR, Go.Proofs.Try.Dif.tb_specLong, go_sem, seval]
  (try simp (config := {maxSteps := 2000000}) only [gimp, impB, isT, go_sem, seval])
  refine VL_inv (X := Nat × Nat × List Rw) (fun x => ⟨[(0, enc_strs (a.drop x.1)), (1, enc_strs (b.drop x.2.1)), (5, .ref 112 0 x.2.2.length x.2.2.length)], [(112, .cells 2 false (.agg [.int .i64 0, .str []]) (x.2.2.map enc_rw))]⟩)
    (fun x => x.1 ≤ a.length ∧ x.2.1 ≤ b.length ∧ x.2.2.length ≤ x.1 + x.2.1 ∧ linesS a b = x.2.2 ++ linesS (a.drop x.1) (b.drop x.2.1)) (fun x => (a.length - x.1) + (b.length - x.2.1)) (0, 0, []) ?_ ?_ ?_
  · simp only [T_specLinesR, Go.Proofs.Try.Dif.tb_specLong, go_sem, seval]
  · exact ⟨Nat.zero_le _, Nat.zero_le _, Nat.le_refl _, rfl⟩
  rintro ⟨i, k, l⟩ ⟨i1, i2, i3, i4⟩
  simp only at i1 i2 i3 i4
  simp (config := {maxSteps := 2000000}) only [T_specLinesR, Go.Proofs.Try.Dif.tb_specLong, go_sem, seval]
  (try simp (config := {maxSteps := 2000000}) only [gimp, impB, isT, go_sem, seval])
  have da : List.drop 1 (a.drop i) = a.drop (i + 1) := by rw [List.drop_drop]
  have db : List.drop 1 (b.drop k) = b.drop (k + 1) := by rw [List.drop_drop]
  have ga : (a.drop i).getD 0 [] = a.getD i [] := by simp [List.getD_eq_getElem?_getD]
  have gb : (b.drop k).getD 0 [] = b.getD k [] := by simp [List.getD_eq_getElem?_getD]
  have la : (a.drop i).length = a.length - i := List.length_drop ..
  have lb : (b.drop k).length = b.length - k := List.length_drop ..
  have nx : ∀ (n : Int) (s : List UInt8), (l ++ [(n, s)]).length = l.length + 1 := fun n s => by simp
  simp only [da, db, ga, gb, map_rw_snoc]
  (repeat' (first | refine And.intro ?_ ?_ | intro _))
  all_goals (try first | omega | assumption | contradiction)
  · rename_i h1 h2 h3 h4
    exact ⟨(i + 1, k + 1, l ++ [(0, a.getD i [])]), ⟨⟨rfl, rfl, by simp⟩, rfl⟩, ⟨by simp only; omega, by simp only; omega, by simp only [nx]; omega, by simp only; rw [i4, at_same (by omega) (by omega) h4, List.append_assoc]; rfl⟩, by simp only; omega⟩
  · rw [List.length_drop]; omega
  · rw [List.length_drop]; omega
  · rename_i h1 h2 h3
    rcases Nat.lt_or_ge k b.length with hk | hk
    · rcases h3 with h3 | ⟨h3, h5⟩
      · omega
      · have h4 : ¬ a.getD i [] = b.getD k [] := fun e => by
          have e1 : decide (0 < ((a.drop i).length : Int)) = true := by simp only [decide_eq_true_eq]; omega
          have e2 : decide (0 < ((b.drop k).length : Int)) = true := by simp only [decide_eq_true_eq]; omega
          rw [e1, e2, decide_eq_true e] at h2; simp at h2
        exact ⟨(i + 1, k, l ++ [(1, a.getD i [])]), ⟨⟨rfl, rfl, by simp⟩, rfl⟩, ⟨by simp only; omega, by simp only; omega, by simp only [nx]; omega, by simp only; rw [i4, at_gone (by omega) hk h4 h5, List.append_assoc]; rfl⟩, by simp only; omega⟩
    · exact ⟨(i + 1, k, l ++ [(1, a.getD i [])]), ⟨⟨rfl, rfl, by simp⟩, rfl⟩, ⟨by simp only; omega, by simp only; omega, by simp only [nx]; omega, by simp only; rw [i4, at_rest (by omega) hk, List.append_assoc]; rfl⟩, by simp only; omega⟩
  · rename_i h1 h2 h3 h6
    rcases Nat.lt_or_ge i a.length with hi | hi
    · have e1 : decide (0 < ((a.drop i).length : Int)) = true := by simp only [decide_eq_true_eq]; omega
      have e2 : decide (0 < ((b.drop k).length : Int)) = true := by simp only [decide_eq_true_eq]; omega
      have h4 : ¬ a.getD i [] = b.getD k [] := fun e => by
        rw [e1, e2, decide_eq_true e] at h2; simp at h2
      have h5 : ¬ (lcs (a.drop i) (b.drop (k + 1)) : Int) ≤ (lcs (a.drop (i + 1)) (b.drop k) : Nat) := fun e => by rw [e1, decide_eq_true e] at h6; simp at h6
      exact ⟨(i, k + 1, l ++ [(2, b.getD k [])]), ⟨⟨rfl, rfl, by simp⟩, rfl⟩, ⟨by simp only; omega, by simp only; omega, by simp only [nx]; omega, by simp only; rw [i4, at_new hi (by omega) h4 h5, List.append_assoc]; rfl⟩, by simp only; omega⟩
    · exact ⟨(i, k + 1, l ++ [(2, b.getD k [])]), ⟨⟨rfl, rfl, by simp⟩, rfl⟩, ⟨by simp only; omega, by simp only; omega, by simp only [nx]; omega, by simp only; rw [i4, at_add hi (by omega), List.append_assoc]; rfl⟩, by simp only; omega⟩
  · rw [i4, List.drop_eq_nil_of_le (show a.length ≤ i by omega), List.drop_eq_nil_of_le (show b.length ≤ k by omega), linesS_nn, List.append_nil, List.take_length]
def tb_specLinesR : List Blk → List AV → Option (List Blk × AV × Prop)
  | [], [a0, a1] => some ([], enc_rws (linesS (dec_strs a0) (dec_strs a1)), ((dec_strs a0).length ≤ 100000) ∧ ((dec_strs a1).length ≤ 100000) ∧ argOK a0 (enc_strs (dec_strs a0)) ∧ argOK a1 (enc_strs (dec_strs a1)))
  | _, _ => none
theorem tb_specLinesR_ok : ∀ E args E' res p, tb_specLinesR E args = some (E', res, p) → p → SpecE Try.prog 12 E args E' res := by
  intro E args E' res p h hp
  unfold tb_specLinesR at h
  split at h
  · simp only [Option.some.injEq, Prod.mk.injEq] at h
    obtain ⟨rfl, rfl, rfl⟩ := h
    exact SpecE.args (specLinesR _ _ hp.1 hp.2.1) (.cons hp.2.2.1 (.cons hp.2.2.2 .nil))
  · cases h

def T_specTurn : Tbl := fun g E args => nilT g E args
theorem T_specTurn_ok : TblOK Try.prog T_specTurn := nilT_ok
set_option maxRecDepth 100000 in
set_option maxHeartbeats 4000000 in
theorem specTurn (l : List Rw) (hl : l.length ≤ 1000000) : SpecE Try.prog 15 [] [enc_rws l] [] (enc_rws (turnS l)) := by
  refine specF0 (C := T_specTurn) (wr := false) (D := fun _ => []) (U := fun _ => none) (res := [enc_rws (turnS l)]) Try.Ty.mixed T_specTurn_ok Try.func15 (nA := 1) (by decide +kernel) rfl (fun _ => rfl) ?_
  simp only [Try.f15, bodyOf, rlOf]
  rw [W_V]
  simp (config := {maxSteps := 2000000}) only [T_specTurn, go_sem, seval]
  (try simp (config := {maxSteps := 2000000}) only [gimp, impB, isT, go_sem, seval])
  refine ⟨by omega, ?_⟩
  refine VL_inv (X := Nat) (fun x => ⟨[(3, .ref 144 0 l.length l.length), (9, enc_rws l), (10, .int .i64 l.length), (11, .int .i64 x)], [(144, .cells 2 false (.agg [.int .i64 0, .str []]) ((turnS (l.take x) ++ List.replicate (l.length - x) (0, [])).map enc_rw))]⟩) (fun x => x ≤ l.length) (fun x => l.length - x) 0 ?_ ?_ ?_
  · simp only [T_specTurn, go_sem, seval]
    simp [turnS, enc_rw]
  · exact Nat.zero_le _
  intro x hx
  simp (config := {maxSteps := 2000000}) only [T_specTurn, go_sem, seval]
  (try simp (config := {maxSteps := 2000000}) only [gimp, impB, isT, go_sem, seval])
  have hl2 : (turnS (l.take x) ++ List.replicate (l.length - x) (0, [])).length = l.length := by rw [List.length_append, turnS_len, List.length_take, List.length_replicate]; omega
  rw [hl2]
  refine ⟨fun hlt => ?_, fun hge => ?_⟩
  · have st := fun v hv => turn_step (l := l) (x := x) (by omega) v hv
    refine ⟨by omega, fun h1 => ⟨by omega, by omega, by omega, x + 1, ⟨by omega, st _ (by rw [if_pos h1])⟩, by omega, by omega⟩, fun h1 => ⟨fun h2 => ⟨by omega, by omega, by omega, x + 1, ⟨by omega, st _ (by rw [if_neg h1, if_pos h2])⟩, by omega, by omega⟩, fun h2 => ⟨by omega, by omega, by omega, x + 1, ⟨by omega, st _ (by rw [if_neg h1, if_neg h2])⟩, by omega, by omega⟩⟩⟩
  · have e : x = l.length := by omega
    subst e
    refine ⟨?_, rfl⟩
    rw [Nat.sub_self, List.replicate_zero, List.append_nil, List.take_length, List.take_of_length_le (by rw [turnS_len]; omega)]
def tb_specTurn : List Blk → List AV → Option (List Blk × AV × Prop)
  | [], [a0] => some ([], enc_rws (turnS (dec_rws a0)), ((dec_rws a0).length ≤ 1000000) ∧ argOK a0 (enc_rws (dec_rws a0)))
  | _, _ => none
theorem tb_specTurn_ok : ∀ E args E' res p, tb_specTurn E args = some (E', res, p) → p → SpecE Try.prog 15 E args E' res := by
  intro E args E' res p h hp
  unfold tb_specTurn at h
  split at h
  · simp only [Option.some.injEq, Prod.mk.injEq] at h
    obtain ⟨rfl, rfl, rfl⟩ := h
    exact SpecE.args (specTurn _ hp.1) (.cons hp.2 .nil)
  · cases h

/-- What Apply says where the lines do not fit. -/
def apOk (a : List (List UInt8)) (l : List Rw) : Bool := (applyS a l).isSome
def apV (a : List (List UInt8)) (l : List Rw) : List (List UInt8) := (applyS a l).getD []
theorem apN {a : List (List UInt8)} {l : List Rw} (h : applyS a l = none) : apV a l = [] ∧ apOk a l = false := by simp [apV, apOk, h]
theorem apS {a o : List (List UInt8)} {l : List Rw} (h : applyS a l = some o) : apV a l = o ∧ apOk a l = true := by simp [apV, apOk, h]
theorem applyS_end (a o : List (List UInt8)) : (applyS a []).map (o ++ ·) = if a.length = 0 then some o else none := by
  cases a <;> simp [applyS]
theorem drop_cons2 {l : List Rw} {i : Nat} (h : i < l.length) : l.drop i = l.getD i (0, []) :: l.drop (i + 1) := by
  rw [List.drop_eq_getElem_cons h, List.getD_eq_getElem?_getD, List.getElem?_eq_getElem h]; rfl
def apE (a : List (List UInt8)) (l : List Rw) (x : Nat × Nat × List (List UInt8)) : St := ⟨[(7, enc_strs (a.drop x.2.1)), (6, .ref 864 0 x.2.2.length x.2.2.length), (16, enc_rws l), (17, .int .i64 l.length), (18, .int .i64 x.1)], [(864, .cells 1 false (.str []) (x.2.2.map .str))]⟩
def apI (a : List (List UInt8)) (l : List Rw) (x : Nat × Nat × List (List UInt8)) : Prop := x.1 ≤ l.length ∧ x.2.1 ≤ a.length ∧ x.2.2.length ≤ x.1 ∧ applyS a l = (applyS (a.drop x.2.1) (l.drop x.1)).map (x.2.2 ++ ·)
theorem apI0 (a : List (List UInt8)) (l : List Rw) : apI a l (0, 0, []) := ⟨Nat.zero_le _, Nat.zero_le _, Nat.le_refl _, by simp⟩
def T_specApply : Tbl := fun g E args => nilT g E args
theorem T_specApply_ok : TblOK Try.prog T_specApply := nilT_ok
set_option maxRecDepth 100000 in
set_option maxHeartbeats 4000000 in
theorem specApply (a : List (List UInt8)) (l : List Rw) (ha : a.length ≤ 1000000) (hl : l.length ≤ 1000000) : SpecE Try.prog 13 [] [enc_strs a, enc_rws l] [] (.tuple [enc_strs (apV a l), .bool (apOk a l)]) := by
  refine specF0 (C := T_specApply) (wr := false) (D := fun _ => []) (U := fun _ => none) (res := [enc_strs (apV a l), .bool (apOk a l)]) Try.Ty.mixed T_specApply_ok Try.func13 (nA := 2) (by decide +kernel) rfl (fun _ => rfl) ?_
  simp only [Try.f13, bodyOf, rlOf]
  rw [W_V]
  by_cases hz : (a.length : Int) = 0
  all_goals simp (config := {maxSteps := 2000000}) only [hz, decide_true, decide_false, cond_true, cond_false, List.take_length, T_specApply, go_sem, seval]
  all_goals (try refine And.intro (by omega) ?_)
  all_goals refine VL_inv (X := Nat × Nat × List (List UInt8)) (apE a l) (apI a l) (fun x => l.length - x.1) (0, 0, []) ?_ (apI0 a l) ?_
  · have : a = [] := List.length_eq_zero_iff.1 (by omega)
    subst this
    simp only [apE, T_specApply, go_sem, seval]
  rotate_left
  · simp only [apE, T_specApply, go_sem, seval]
  all_goals rintro ⟨j, i, o⟩ ⟨i1, i2, i3, i4⟩
  all_goals simp only at i1 i2 i3 i4
  all_goals simp (config := {maxSteps := 2000000}) only [apE, T_specApply, go_sem, seval]
  all_goals (try simp (config := {maxSteps := 2000000}) only [gimp, impB, isT, go_sem, seval])
  all_goals clear hz
  all_goals have da : List.drop 1 (a.drop i) = a.drop (i + 1) := by rw [List.drop_drop]
  all_goals have ga : (a.drop i).getD 0 [] = a.getD i [] := by simp [List.getD_eq_getElem?_getD]
  all_goals have la : (a.drop i).length = a.length - i := List.length_drop ..
  all_goals have e0 : List.map AV.str [] = [] := rfl
  all_goals have sn : ∀ t, o.map AV.str ++ [AV.str t] = (o ++ [t]).map AV.str := fun t => by rw [List.map_append]; rfl
  all_goals simp only [da, sn]
  all_goals refine ⟨fun hlt => ?_, fun hge => ?_⟩
  all_goals first
    | (have hj : j = l.length := by omega
       subst hj
       rw [List.drop_length, applyS_end] at i4
       refine ⟨fun h => ?_, fun h => ?_⟩
       · rw [if_neg (by omega)] at i4
         rw [(apN i4).1, (apN i4).2]; exact ⟨rfl, rfl⟩
       · rw [if_pos (by omega)] at i4
         rw [(apS i4).1, (apS i4).2]; simp)
    | skip
  all_goals rw [drop_cons2 (show j < l.length by omega)] at i4
  all_goals rcases hr : l.getD j (0, []) with ⟨s, t⟩
  all_goals rw [hr] at i4
  all_goals simp only
  all_goals refine ⟨by omega, fun hb => ?_, fun h1 h2 => ⟨fun h3 => ⟨fun h4 => by omega, fun h4 => ?_, fun h4 h5 => ⟨by omega, fun h6 => ⟨by omega, by omega, (j + 1, i + 1, o ++ [t]), ⟨⟨rfl, by simp, by simp⟩, rfl⟩, ⟨by simp only; omega, by simp only; omega, by simp; omega, ?_⟩, by simp only; omega⟩, fun h6 => ⟨by omega, (j + 1, i + 1, o), ⟨⟨rfl, rfl, by simp⟩, rfl⟩, ⟨by simp only; omega, by simp only; omega, by simp only; omega, ?_⟩, by simp only; omega⟩⟩⟩, fun h3 => ⟨fun h6 => ⟨by omega, by omega, (j + 1, i, o ++ [t]), ⟨⟨rfl, by simp, by simp⟩, rfl⟩, ⟨by simp only; omega, by simp only; omega, by simp; omega, ?_⟩, by simp only; omega⟩, fun h6 => by omega⟩⟩⟩
  all_goals first
    | (rw [applyS_bad _ _ _ _ hb] at i4
       rw [(apN i4).1, (apN i4).2]; exact ⟨rfl, rfl⟩)
    | (rw [applyS_fit _ _ _ _ (by omega) (by rcases h4 with h4 | h4; exact .inl (List.length_eq_zero_iff.1 (by omega)); exact .inr h4)] at i4
       rw [(apN i4).1, (apN i4).2]; exact ⟨rfl, rfl⟩)
    | (obtain rfl : s = 1 := h6
       rw [drop_get (show i < a.length by omega), ← ga, h5, applyS_gone] at i4
       exact i4)
    | (obtain rfl : s = 0 := by omega
       rw [drop_get (show i < a.length by omega), ← ga, h5, applyS_same, Option.map_map] at i4
       simp only; rw [i4]; congr 1; funext q; simp)
    | (obtain rfl : s = 2 := h3
       rw [applyS_new, Option.map_map] at i4
       simp only; rw [i4]; congr 1; funext q; simp)
def tb_specApply : List Blk → List AV → Option (List Blk × AV × Prop)
  | [], [a0, a1] => some ([], .tuple [enc_strs (apV (dec_strs a0) (dec_rws a1)), .bool (apOk (dec_strs a0) (dec_rws a1))], ((dec_strs a0).length ≤ 1000000) ∧ ((dec_rws a1).length ≤ 1000000) ∧ argOK a0 (enc_strs (dec_strs a0)) ∧ argOK a1 (enc_rws (dec_rws a1)))
  | _, _ => none
theorem tb_specApply_ok : ∀ E args E' res p, tb_specApply E args = some (E', res, p) → p → SpecE Try.prog 13 E args E' res := by
  intro E args E' res p h hp
  unfold tb_specApply at h
  split at h
  · simp only [Option.some.injEq, Prod.mk.injEq] at h
    obtain ⟨rfl, rfl, rfl⟩ := h
    exact SpecE.args (specApply _ _ hp.1 hp.2.1) (.cons hp.2.2.1 (.cons hp.2.2.2 .nil))
  · cases h
end Go.Proofs.Try.Dif
