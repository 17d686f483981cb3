/- diff: the walks of the program and of the document's answer. No condition beyond those that a machine's numbers bring. -/
import Derived.Test.YtlkfjkimnkhelaaDifM
set_option linter.unusedVariables false
set_option linter.unusedSimpArgs false
namespace Go.Proofs.Try.Dif
open Go Go.Abs Go.Proofs Go.Mdl

def T_specTable : Tbl := fun g E args => nilT g E args
theorem T_specTable_ok : TblOK Try.prog T_specTable := nilT_ok
set_option maxRecDepth 100000 in
set_option maxHeartbeats 4000000 in
theorem specTable (a b : List (List UInt8)) (ha : a.length ≤ 100000) (hb : b.length ≤ 100000) : SpecE Try.prog 25 [] [enc_strs a, enc_strs b] [] (tabAV a b) := by
  exact specTableW a b ha hb
def tb_specTable : List Blk → List AV → Option (List Blk × AV × Prop)
  | [], [a0, a1] => some ([], tabAV (dec_strs a0) (dec_strs a1), ((dec_strs a0).length ≤ 100000) ∧ ((dec_strs a1).length ≤ 100000) ∧ argOK a0 (enc_strs (dec_strs a0)) ∧ argOK a1 (enc_strs (dec_strs a1)))
  | _, _ => none
theorem tb_specTable_ok : ∀ E args E' res p, tb_specTable E args = some (E', res, p) → p → SpecE Try.prog 25 E args E' res := by
  intro E args E' res p h hp
  unfold tb_specTable at h
  split at h
  · simp only [Option.some.injEq, Prod.mk.injEq] at h
    obtain ⟨rfl, rfl, rfl⟩ := h
    exact SpecE.args (specTable _ _ hp.1 hp.2.1) (.cons hp.2.2.1 (.cons hp.2.2.2 .nil))
  · cases h

def T_specLong : Tbl := fun g E args => nilT g E args
theorem T_specLong_ok : TblOK Try.prog T_specLong := nilT_ok
set_option maxRecDepth 100000 in
set_option maxHeartbeats 4000000 in
theorem specLong (a b : List (List UInt8)) (ha : a.length ≤ 100000) (hb : b.length ≤ 100000) : SpecE Try.prog 27 [] [enc_strs a, enc_strs b] [] (.int .i64 (lcs a b : Nat)) := by
  refine specF0 (C := T_specLong) (wr := false) (D := fun i => if i = 10 then [9] else if i = 11 then [14] else []) (U := fun _ => none) (res := [.int .i64 (lcs a b : Nat)]) Try.Ty.mixed T_specLong_ok Try.func27 (nA := 2) (by decide +kernel) rfl (fun _ => rfl) ?_
  simp only [Try.f27, bodyOf, rlOf]
  rw [W_V]
  simp (config := {maxSteps := 2000000}) only [T_specLong, go_sem, seval, rowF_len, rowF_ref, rowF_pure, rowF_map]
  (try simp (config := {maxSteps := 2000000}) only [gimp, impB, isT, go_sem, seval])
  refine ⟨by omega, by omega, ?_⟩
  refine VL_invS [(368, 208)] (X := Nat) (fun x => ⟨[(0, enc_strs a), (1, enc_strs b), (5, .ref 208 0 (b.length + 1) (b.length + 1)), (6, .int .i64 x)], [(208, .cells 1 false (.int .i64 0) (rowF (b.length + 1) fun k => (lcs (a.take x) (b.take k) : Nat)))]⟩) (fun x => x ≤ a.length) (fun x => a.length - x) 0 ?_ ?_ ?_
  · simp only [rowF_zero, rowF_len, rowF_ref, rowF_pure, List.take_zero, lcs_nil, go_sem, go_sem, seval]
    exact .inl trivial
  · exact Nat.zero_le _
  intro x hx
  simp (config := {maxSteps := 2000000}) only [T_specLong, go_sem, seval, rowF_len, rowF_ref, rowF_pure, rowF_map]
  (try simp (config := {maxSteps := 2000000}) only [gimp, impB, isT, go_sem, seval])
  refine ⟨fun hlt => ⟨by omega, by omega, ?_⟩, fun hge => ?_⟩
  · refine VL_inv (X := Nat) (fun y => ⟨[(0, enc_strs a), (1, enc_strs b), (5, .ref 208 0 (b.length + 1) (b.length + 1)), (6, .int .i64 x), (7, .ref 368 0 (b.length + 1) (b.length + 1)), (8, .int .i64 y)], [(208, .cells 1 false (.int .i64 0) (rowF (b.length + 1) fun k => (lcs (a.take x) (b.take k) : Nat))), (368, .cells 1 false (.int .i64 0) (rowF (b.length + 1) fun k => if k ≤ y then (lcs (a.take (x + 1)) (b.take k) : Nat) else 0))]⟩) (fun y => y ≤ b.length) (fun y => b.length - y) 0 ?_ ?_ ?_
    · simp only [rowF_zero, rowF_len, rowF_ref, rowF_pure, List.take_zero, lcs_nil, go_sem, go_sem, seval]
      refine rowF_congr (fun k hk => ?_)
      split
      · rename_i e
        obtain rfl : k = 0 := by omega
        rw [List.take_zero, lcs_nil']; rfl
      · rfl
    · exact Nat.zero_le _
    intro y hy
    by_cases hy2 : y < b.length
    · have g0 : ∀ g d, (rowF (b.length + 1) g).getD (0 + y) d = .int .i64 (g y) := fun g d => by rw [Nat.zero_add]; exact rowF_get (by omega) d
      have g1 : ∀ g d, (rowF (b.length + 1) g).getD (0 + (y + 1)) d = .int .i64 (g (y + 1)) := fun g d => by rw [Nat.zero_add]; exact rowF_get (by omega) d
      simp (config := {maxSteps := 2000000}) only [g0, g1, T_specLong, go_sem, seval, rowF_len, rowF_ref, rowF_pure, rowF_map]
      have q1 := lcs_le (a.take x) (b.take y)
      rw [List.length_take] at q1
      have st : ∀ v : Int, v = (lcs (a.take (x + 1)) (b.take (y + 1)) : Nat) → (rowF (b.length + 1) fun k => if k ≤ y then (lcs (a.take (x + 1)) (b.take k) : Int) else 0).set (0 + (y + 1)) (.int .i64 v) = rowF (b.length + 1) fun k => if k ≤ y + 1 then (lcs (a.take (x + 1)) (b.take k) : Int) else 0 := fun v hv => by
        rw [Nat.zero_add, rowF_set]
        refine rowF_congr (fun k hk => ?_)
        by_cases e : k = y + 1
        · subst e; rw [if_pos rfl, if_pos (Nat.le_refl _), hv]
        · rw [if_neg e]
          by_cases e2 : k ≤ y
          · rw [if_pos e2, if_pos (by omega)]
          · rw [if_neg e2, if_neg (by omega)]
      have t1 := take_succ_getD (s := a) (x := x) [] (by omega)
      have t2 := take_succ_getD (s := b) (x := y) [] (by omega)
      refine ⟨fun _ => ⟨by omega, by omega, fun he => ⟨by omega, by omega, by omega, by omega, by omega, by omega, by omega, y + 1, ⟨by omega, st _ ?_⟩, by omega, by omega⟩, fun he => ⟨by omega, by omega, by omega, by omega, by omega, by omega, by omega, by omega, by omega, y + 1, ⟨by omega, st _ ?_⟩, by omega, by omega⟩⟩, fun h => absurd h (by omega)⟩
      · rw [t1, t2, lcs_snoc, if_pos he]; simp
      · rw [if_pos (Nat.le_refl _), t1, t2, lcs_snoc, if_neg he, ← t1, ← t2]; omega
    · simp (config := {maxSteps := 2000000}) only [T_specLong, go_sem, seval, rowF_len, rowF_ref, rowF_pure, rowF_map]
      refine ⟨fun h => absurd h (by omega), fun h => ⟨by omega, x + 1, .inr ⟨by omega, rowF_congr (fun k hk => by rw [if_pos (by omega)])⟩, by omega, by omega⟩⟩
  · have e : x = a.length := by omega
    subst e
    have gb := fun g d => rowF_get (m := b.length + 1) (j := b.length) (g := g) (by omega) d
    rw [Nat.zero_add, gb, List.take_length, List.take_length]
    exact ⟨⟨by omega, by omega⟩, by omega, trivial, rfl, rfl⟩
def tb_specLong : List Blk → List AV → Option (List Blk × AV × Prop)
  | [], [a0, a1] => some ([], .int .i64 (lcs (dec_strs a0) (dec_strs a1) : Nat), ((dec_strs a0).length ≤ 100000) ∧ ((dec_strs a1).length ≤ 100000) ∧ argOK a0 (enc_strs (dec_strs a0)) ∧ argOK a1 (enc_strs (dec_strs a1)))
  | _, _ => none
theorem tb_specLong_ok : ∀ E args E' res p, tb_specLong E args = some (E', res, p) → p → SpecE Try.prog 27 E args E' res := by
  intro E args E' res p h hp
  unfold tb_specLong at h
  split at h
  · simp only [Option.some.injEq, Prod.mk.injEq] at h
    obtain ⟨rfl, rfl, rfl⟩ := h
    exact SpecE.args (specLong _ _ hp.1 hp.2.1) (.cons hp.2.2.1 (.cons hp.2.2.2 .nil))
  · cases h

def T_specPut : Tbl := fun g E args => nilT g E args
theorem T_specPut_ok : TblOK Try.prog T_specPut := nilT_ok
set_option maxRecDepth 100000 in
set_option maxHeartbeats 4000000 in
theorem specPut (l : List Rw) (n : Int) (s : List UInt8) (hl : l.length ≤ 1000000) : SpecE Try.prog 26 [.cells 1 false .nils [.ref 1 0 l.length l.length], .cells 2 false (.agg [.int .i64 0, .str []]) (l.map enc_rw)] [.int .i64 n, .str s, .ptr 0 0 0 1] [.cells 1 false .nils [.ref 1 0 (l ++ [(n, s)]).length (l ++ [(n, s)]).length], .cells 2 false (.agg [.int .i64 0, .str []]) ((l ++ [(n, s)]).map enc_rw)] (.tuple []) := by
  refine specFE (C := T_specPut) (wr := false) (D := fun _ => []) (U := fun _ => none) (E := [.cells 1 false .nils [.ref 1 0 l.length l.length], .cells 2 false (.agg [.int .i64 0, .str []]) (l.map enc_rw)]) (E' := [.cells 1 false .nils [.ref 1 0 (l ++ [(n, s)]).length (l ++ [(n, s)]).length], .cells 2 false (.agg [.int .i64 0, .str []]) ((l ++ [(n, s)]).map enc_rw)]) (res := []) [] Try.Ty.mixed T_specPut_ok Try.func26 (args := [.int .i64 n, .str s, .ptr 0 0 0 1]) (nE := 2) (nA := 3) (by decide +kernel) rfl rfl ?_
  simp only [Try.f26, bodyOf, rlOf]
  rw [W_V]
  simp (config := {maxSteps := 2000000}) only [T_specPut, go_sem, seval]
  (try simp (config := {maxSteps := 2000000}) only [gimp, impB, isT, go_sem, seval])
  refine ⟨by omega, ⟨by simp, ?_⟩, ?_, ?_⟩
  · rw [map_rw_snoc]
  · rw [map_rw_snoc]
  · simp

/-- As the table has it. -/
def tb_put : List Blk → List AV → Option (List Blk × AV × Prop)
  | [.cells 1 false d1 [.ref 1 0 n m], .cells 2 false d2 c], [.int .i64 k, .str s, .ptr 0 0 0 1] =>
    some ([.cells 1 false d1 [.ref 1 0 (c.length + 1) (c.length + 1)], .cells 2 false d2 (c ++ [.agg [.int .i64 k, .str s]])], .tuple [],
      d1 = .nils ∧ d2 = .agg [.int .i64 0, .str []] ∧ n = c.length ∧ m = c.length ∧ (c.map dec_rw).map enc_rw = c ∧ c.length ≤ 1000000)
  | _, _ => none
theorem tb_put_ok : ∀ E args E' res q, tb_put E args = some (E', res, q) → q → SpecE Try.prog 26 E args E' res := by
  intro E args E' res q h hq
  unfold tb_put at h
  split at h
  · simp only [Option.some.injEq, Prod.mk.injEq] at h
    obtain ⟨rfl, rfl, rfl⟩ := h
    obtain ⟨rfl, rfl, rfl, rfl, h1, h2⟩ := hq
    rename_i c k s
    have := specPut (c.map dec_rw) k s (by rw [List.length_map]; exact h2)
    simp only [List.map_append, h1, List.length_append, List.length_map, List.length_singleton] at this
    exact this
  · cases h
def pT : Tbl := addT nilT 26 tb_put
theorem pT_ok : TblOK Try.prog pT := addT_ok nilT_ok (by decide +kernel) tb_put_ok

def T_specLines : Tbl := fun g E args => (addT pT 25 Go.Proofs.Try.Dif.tb_specTable) g E args
theorem T_specLines_ok : TblOK Try.prog T_specLines := (addT_ok pT_ok (by decide +kernel) Go.Proofs.Try.Dif.tb_specTable_ok)
set_option maxRecDepth 100000 in
set_option maxHeartbeats 4000000 in
theorem specLines (a b : List (List UInt8)) (ha : a.length ≤ 100000) (hb : b.length ≤ 100000) : SpecE Try.prog 11 [] [enc_strs a, enc_strs b] [] (enc_rws (linesS a b)) := by
  refine specF0 (C := T_specLines) (wr := false) (D := fun _ => []) (U := fun _ => none) (res := [enc_rws (linesS a b)]) Try.Ty.mixed T_specLines_ok Try.func11 (nA := 2) (by decide +kernel) rfl (fun _ => rfl) ?_
  simp only [Try.f11, bodyOf, rlOf]
  rw [W_V]
  simp (config := {maxSteps := 2000000}) only [T_specLines, Go.Proofs.Try.Dif.tb_specTable, go_sem, seval, pT, tb_put, tabAV_eq, tabL_len]
  (try simp (config := {maxSteps := 2000000}) only [gimp, impB, isT, go_sem, seval])
  refine ⟨⟨ha, hb⟩, ?_⟩
  refine VL_inv (X := Nat × Nat × List Rw) (fun x => ⟨[(0, enc_strs a), (1, enc_strs b), (5, .list 1 (tabL a b)), (6, .ptr 112 0 0 1), (7, .clo 26 0 [.ptr 112 0 0 1]), (8, .int .i64 x.1), (9, .int .i64 x.2.1)],
    [(112, .cells 1 false .nils [.ref 320 0 x.2.2.length x.2.2.length]), (320, .cells 2 false (.agg [.int .i64 0, .str []]) (x.2.2.map enc_rw))]⟩)
    (fun x => x.1 ≤ a.length ∧ x.2.1 ≤ b.length ∧ x.2.2.length ≤ x.1 + x.2.1 ∧ linesS a b = x.2.2 ++ linesS (a.drop x.1) (b.drop x.2.1)) (fun x => (a.length - x.1) + (b.length - x.2.1)) (0, 0, []) ?_ ?_ ?_
  · simp only [T_specLines, Go.Proofs.Try.Dif.tb_specTable, go_sem, seval, pT, tb_put, tabAV_eq, tabL_len]
  · exact ⟨Nat.zero_le _, Nat.zero_le _, Nat.le_refl _, rfl⟩
  rintro ⟨i, k, l⟩ ⟨i1, i2, i3, i4⟩
  simp only at i1 i2 i3 i4
  by_cases hi : i < a.length
  · by_cases hk : k < b.length
    · have hi' : ((i : Int) < a.length) = True := by simp; exact hi
      have hk' : ((k : Int) < b.length) = True := by simp; exact hk
      have g1 : ∀ d, (tabL a b).getD (i + 1) d = _ := fun d => tabL_get (by omega) d
      have g0 : ∀ d, (tabL a b).getD i d = _ := fun d => tabL_get (by omega) d
      have r0 : ∀ g d, (rowF (b.length + 1) g).getD k d = .int .i64 (g k) := fun g d => rowF_get (by omega) d
      have r1 : ∀ g d, (rowF (b.length + 1) g).getD (k + 1) d = .int .i64 (g (k + 1)) := fun g d => rowF_get (by omega) d
      simp (config := {maxSteps := 2000000}) only [hi', hk', g0, g1, r0, r1, T_specLines, Go.Proofs.Try.Dif.tb_specTable, go_sem, seval, pT, tb_put, tabAV_eq, tabL_len]
      (try simp (config := {maxSteps := 2000000}) only [hi', hk', rowF_len, gimp, impB, isT, map_ren_rw, go_sem, seval])
      have nx : ∀ (n : Int) (s : List UInt8), (l ++ [(n, s)]).length = l.length + 1 := fun n s => by simp
      (repeat' (first | refine And.intro ?_ ?_ | intro _))
      all_goals (try first | omega | assumption | contradiction)
      · rename_i h1 h2
        exact ⟨(i + 1, k + 1, l ++ [(0, a.getD i [])]), ⟨⟨by simp only; omega, by simp only; omega⟩, by simp, rfl⟩, ⟨by simp only; omega, by simp only; omega, by simp only [nx]; omega, by simp only; rw [i4, at_same hi hk h2, List.append_assoc]; rfl⟩, by simp only; omega⟩
      · rename_i h1 h2 h3
        have h4 : ¬ a.getD i [] = b.getD k [] := fun e => by rw [e] at h2; simp at h2
        have h5 := h3.resolve_left (by omega)
        exact ⟨(i + 1, k, l ++ [(1, a.getD i [])]), ⟨⟨by simp only; omega, by simp only⟩, by simp, rfl⟩, ⟨by simp only; omega, by simp only; omega, by simp only [nx]; omega, by simp only; rw [i4, at_gone hi hk h4 h5, List.append_assoc]; rfl⟩, by simp only; omega⟩
      · rename_i h1 h2 h3 h6
        have h4 : ¬ a.getD i [] = b.getD k [] := fun e => by rw [e] at h2; simp at h2
        have h5 : ¬ (lcs (a.drop i) (b.drop (k + 1)) : Int) ≤ (lcs (a.drop (i + 1)) (b.drop k) : Nat) := fun e => by rw [decide_eq_true e] at h6; simp at h6
        exact ⟨(i, k + 1, l ++ [(2, b.getD k [])]), ⟨⟨by simp only, by simp only; omega⟩, by simp, rfl⟩, ⟨by simp only; omega, by simp only; omega, by simp only [nx]; omega, by simp only; rw [i4, at_new hi hk h4 h5, List.append_assoc]; rfl⟩, by simp only; omega⟩
    · have hi' : ((i : Int) < a.length) = True := by simp; exact hi
      have hk' : ((k : Int) < b.length) = False := by simp; omega
      have hk2 : ((k : Int) = b.length) = True := by simp; omega
      have g1 : ∀ d, (tabL a b).getD (i + 1) d = _ := fun d => tabL_get (by omega) d
      have g0 : ∀ d, (tabL a b).getD i d = _ := fun d => tabL_get (by omega) d
      simp (config := {maxSteps := 2000000}) only [hi', hk', hk2, g0, g1, rowF_getI, decide_true, decide_false, Bool.and_false, Bool.false_and, Bool.true_and, Bool.not_true, T_specLines, Go.Proofs.Try.Dif.tb_specTable, go_sem, seval, pT, tb_put, tabAV_eq, tabL_len]
      (try simp (config := {maxSteps := 2000000}) only [hi', hk', rowF_len, gimp, impB, isT, map_ren_rw, go_sem, seval])
      exact ⟨by omega, by omega, by omega, (i + 1, k, l ++ [(1, a.getD i [])]), ⟨⟨by simp only; omega, by simp only⟩, by simp, rfl⟩, ⟨by simp only; omega, by simp only; omega, by simp only [List.length_append, List.length_cons, List.length_nil]; omega, by simp only; rw [i4, at_rest hi (by omega), List.append_assoc]; rfl⟩, by simp only; omega⟩
  · have hi' : ((i : Int) < a.length) = False := by simp; omega
    have g1 : (tabL a b).getD (i + 1) .nils = .nils := tabL_out (by omega)
    have g0 : ∀ d, (tabL a b).getD i d = _ := fun d => tabL_get (by omega) d
    simp (config := {maxSteps := 2000000}) only [hi', g0, g1, rowF_getI, decide_true, decide_false, Bool.and_false, Bool.false_and, Bool.true_and, Bool.not_true, T_specLines, Go.Proofs.Try.Dif.tb_specTable, go_sem, seval, pT, tb_put, tabAV_eq, tabL_len]
    (try simp (config := {maxSteps := 2000000}) only [hi', rowF_len, gimp, impB, isT, map_ren_rw, go_sem, seval])
    refine ⟨fun h => ⟨fun h2 => absurd h (by omega), fun _ => ⟨by omega, by omega, by omega, (i, k + 1, l ++ [(2, b.getD k [])]), ⟨⟨by simp only, by simp only; omega⟩, by simp, rfl⟩, ⟨by simp only; omega, by simp only; omega, by simp only [List.length_append, List.length_cons, List.length_nil]; omega, by simp only; rw [i4, at_add (by omega) (by omega), List.append_assoc]; rfl⟩, by simp only; omega⟩⟩, fun h => ?_⟩
    rw [i4, List.drop_eq_nil_of_le (show a.length ≤ i by omega), List.drop_eq_nil_of_le (show b.length ≤ k by omega), linesS_nn, List.append_nil, List.take_length]
def tb_specLines : List Blk → List AV → Option (List Blk × AV × Prop)
  | [], [a0, a1] => some ([], enc_rws (linesS (dec_strs a0) (dec_strs a1)), ((dec_strs a0).length ≤ 100000) ∧ ((dec_strs a1).length ≤ 100000) ∧ argOK a0 (enc_strs (dec_strs a0)) ∧ argOK a1 (enc_strs (dec_strs a1)))
  | _, _ => none
theorem tb_specLines_ok : ∀ E args E' res p, tb_specLines E args = some (E', res, p) → p → SpecE Try.prog 11 E args E' res := by
  intro E args E' res p h hp
  unfold tb_specLines at h
  split at h
  · simp only [Option.some.injEq, Prod.mk.injEq] at h
    obtain ⟨rfl, rfl, rfl⟩ := h
    exact SpecE.args (specLines _ _ hp.1 hp.2.1) (.cons hp.2.2.1 (.cons hp.2.2.2 .nil))
  · cases h

end Go.Proofs.Try.Dif
