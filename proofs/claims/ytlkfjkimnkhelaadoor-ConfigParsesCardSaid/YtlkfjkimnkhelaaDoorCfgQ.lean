/- config: the settings that a text is: the document's answer, and the statement. No condition beyond those that a machine's numbers bring. -/
import Derived.Test.YtlkfjkimnkhelaaDoorCfgP
set_option linter.unusedVariables false
set_option linter.unusedSimpArgs false
namespace Go.Proofs.Tryd.Cfg
open Go Go.Abs Go.Proofs Go.Mdl

theorem split_step {s : List UInt8} {i f : Nat} (hi : i < s.length) (hf : f ≤ i) (hc : s.getD i 0 = 32) (hn : ∀ x ∈ (s.take i).drop f, x ≠ 32) : splitB 32 (s.drop f) = (s.take i).drop f :: splitB 32 (s.drop (i + 1)) := by
  have e : s.drop f = (s.take i).drop f ++ 32 :: s.drop (i + 1) := by
    have h1 : s = s.take i ++ s.drop i := (List.take_append_drop i s).symm
    have h2 : s.drop i = 32 :: s.drop (i + 1) := by
      rw [List.drop_eq_getElem_cons hi]
      congr 1
      rw [List.getD_eq_getElem?_getD, List.getElem?_eq_getElem hi] at hc
      exact hc
    conv => lhs; rw [h1]
    rw [List.drop_append_of_le_length (by rw [List.length_take]; omega), h2]
  rw [e, splitB_app hn]
theorem free_next {s : List UInt8} {i f : Nat} (hi : i < s.length) (hf : f ≤ i) (hc : ¬ s.getD i 0 = 32) (hn : ∀ x ∈ (s.take i).drop f, x ≠ 32) : ∀ x ∈ (s.take (i + 1)).drop f, x ≠ 32 := by
  intro x hx
  rw [take_succ_getD 0 hi, List.drop_append_of_le_length (by rw [List.length_take]; omega)] at hx
  rcases List.mem_append.1 hx with hx | hx
  · exact hn x hx
  · simp only [List.mem_singleton] at hx
    subst hx; exact hc

def T_specWords : Tbl := fun g E args => nilT g E args
theorem T_specWords_ok : TblOK Tryd.prog T_specWords := nilT_ok
set_option maxRecDepth 100000 in
set_option maxHeartbeats 4000000 in
theorem specWords (s : List UInt8) (hs : s.length ≤ 1000000) : SpecE Tryd.prog 21 [] [.str s] [] (enc_strs (splitB 32 s)) := by
  refine specF0 (C := T_specWords) (wr := false) (D := fun _ => []) (U := fun _ => none) (res := [enc_strs (splitB 32 s)]) Tryd.Ty.mixed T_specWords_ok Tryd.func21 (nA := 1) (by decide +kernel) rfl (fun _ => rfl) ?_
  simp only [Tryd.f21, bodyOf, rlOf]
  rw [W_V]
  simp (config := {maxSteps := 2000000}) only [T_specWords, go_sem, seval]
  (try simp (config := {maxSteps := 2000000}) only [gimp, impB, isT, go_sem, seval])
  refine VL_inv (X := Nat × Nat × List (List UInt8)) (fun x => ⟨[(0, .str s), (3, .ref 112 0 x.2.2.length x.2.2.length), (4, .int .i64 x.2.1), (5, .int .i64 x.1)], [(112, .cells 1 false (.str []) (x.2.2.map .str))]⟩)
    (fun x => x.1 ≤ s.length ∧ x.2.1 ≤ x.1 ∧ x.2.2.length ≤ x.2.1 ∧ splitB 32 s = x.2.2 ++ splitB 32 (s.drop x.2.1) ∧ ∀ c ∈ (s.take x.1).drop x.2.1, c ≠ 32) (fun x => s.length - x.1) (0, 0, []) ?_ ?_ ?_
  · simp only [T_specWords, go_sem, seval]
    try rfl
  · exact ⟨Nat.zero_le _, Nat.le_refl _, Nat.le_refl _, rfl, by simp⟩
  rintro ⟨i, f, o⟩ ⟨i1, i2, i3, i4, i5⟩
  simp only at i1 i2 i3 i4 i5
  simp (config := {maxSteps := 2000000}) only [T_specWords, go_sem, seval]
  (try simp (config := {maxSteps := 2000000}) only [gimp, impB, isT, go_sem, seval])
  have sn : ∀ t, o.map AV.str ++ [AV.str t] = (o ++ [t]).map AV.str := fun t => by rw [List.map_append]; rfl
  simp only [sn]
  have dl : (s.drop i).length = s.length - i := List.length_drop ..
  refine ⟨fun hlt => ⟨by omega, fun hc => ⟨by omega, ⟨by omega, by omega⟩, by omega, by omega, (i + 1, i + 1, o ++ [(s.take i).drop f]), ⟨⟨by simp, by simp, by simp⟩, rfl⟩, ⟨by simp only; omega, Nat.le_refl _, by simp only [List.length_append, List.length_singleton]; omega, ?_, ?_⟩, by simp only; omega⟩, fun hc => ⟨by omega, (i + 1, f, o), ⟨⟨rfl, rfl, by simp⟩, rfl⟩, ⟨by simp only; omega, by simp only; omega, by simp only; omega, i4, free_next (by omega) i2 hc i5⟩, by simp only; omega⟩⟩, fun hge => ⟨by omega, ⟨by omega, by omega⟩, ?_, by simp⟩⟩
  · simp only; rw [i4, split_step (by omega) i2 hc i5, List.append_assoc]; rfl
  · simp only
    rw [List.drop_eq_nil_of_le (by rw [List.length_take]; omega)]
    simp
  · have e : i = s.length := by omega
    subst e
    rw [List.take_length] at i5
    rw [i4, splitB_no i5, List.take_of_length_le (by simp)]
def tb_specWords : List Blk → List AV → Option (List Blk × AV × Prop)
  | [], [.str s] => some ([], enc_strs (splitB 32 s), (s.length ≤ 1000000))
  | _, _ => none
theorem tb_specWords_ok : ∀ E args E' res p, tb_specWords E args = some (E', res, p) → p → SpecE Tryd.prog 21 E args E' res := by
  intro E args E' res p h hp
  unfold tb_specWords at h
  split at h
  · simp only [Option.some.injEq, Prod.mk.injEq] at h
    obtain ⟨rfl, rfl, rfl⟩ := h
    exact (specWords _ hp)
  · cases h

def T_specParseR : Tbl := fun g E args => (addT (addT (addT nilT 21 Go.Proofs.Tryd.Cfg.tb_specWords) 23 Go.Proofs.Tryd.Cfg.tb_specPrintR) 22 Go.Proofs.Tryd.Dig.tb_specNumberR) g E args
theorem T_specParseR_ok : TblOK Tryd.prog T_specParseR := (addT_ok (addT_ok (addT_ok nilT_ok (by decide +kernel) Go.Proofs.Tryd.Cfg.tb_specWords_ok) (by decide +kernel) Go.Proofs.Tryd.Cfg.tb_specPrintR_ok) (by decide +kernel) Go.Proofs.Tryd.Dig.tb_specNumberR_ok)
set_option maxRecDepth 100000 in
set_option maxHeartbeats 4000000 in
theorem specParseR (s : List UInt8) (hs : s.length ≤ 1000000) : SpecE Tryd.prog 8 [] [.str s] [] (.tuple [.agg [.str (cfgRN s), .str (cfgRA s), .int .i64 (cfgRI s 0), .int .i64 (cfgRI s 1), .int .i64 (cfgRI s 2), .int .i64 (cfgRI s 3), .int .i64 (cfgRI s 4), .int .i64 (cfgRI s 5), .int .i64 (cfgRI s 6), .int .i64 (cfgRI s 7), .int .i64 (cfgRI s 8), .int .i64 (cfgRI s 9), .int .i64 (cfgRI s 10), .int .i64 (cfgRI s 11), .int .i64 (cfgRI s 12), .int .i64 (cfgRI s 13), .int .i64 (cfgRI s 14), .int .i64 (cfgRI s 15)], .int .i64 (cfgRE s)]) := by
  refine specF0 (C := T_specParseR) (wr := false) (D := fun i => if i = 10 then [40, 41, 410272, 20272, 30272, 50272, 60272, 80272, 90272, 110272, 120272, 140272, 150272, 170272, 180272, 200272, 210272, 230272, 240272, 260272, 270272, 290272, 300272, 320272, 330272, 350272, 360272, 380272, 390272] else if i = 11 then [17] else []) (U := fun _ => none) (res := [.agg [.str (cfgRN s), .str (cfgRA s), .int .i64 (cfgRI s 0), .int .i64 (cfgRI s 1), .int .i64 (cfgRI s 2), .int .i64 (cfgRI s 3), .int .i64 (cfgRI s 4), .int .i64 (cfgRI s 5), .int .i64 (cfgRI s 6), .int .i64 (cfgRI s 7), .int .i64 (cfgRI s 8), .int .i64 (cfgRI s 9), .int .i64 (cfgRI s 10), .int .i64 (cfgRI s 11), .int .i64 (cfgRI s 12), .int .i64 (cfgRI s 13), .int .i64 (cfgRI s 14), .int .i64 (cfgRI s 15)], .int .i64 (cfgRE s)]) Tryd.Ty.mixed T_specParseR_ok Tryd.func8 (nA := 1) (by decide +kernel) rfl (fun _ => rfl) ?_
  simp only [Tryd.f8, bodyOf, rlOf]
  rw [W_V]
  simp (config := {maxSteps := 2000000}) only [T_specParseR, Go.Proofs.Tryd.Cfg.tb_specWords, Go.Proofs.Tryd.Cfg.tb_specPrintR, Go.Proofs.Tryd.Dig.tb_specNumberR, go_sem, seval, cfz, one1, cfgNs, cfgL]
  (try simp (config := {maxSteps := 2000000}) only [gimp, impB, isT, go_sem, seval])
  have bad : cfgHas cfgTo s = false → (.agg [.str [], .str [], .int .i64 0, .int .i64 0, .int .i64 0, .int .i64 0, .int .i64 0, .int .i64 0, .int .i64 0, .int .i64 0, .int .i64 0, .int .i64 0, .int .i64 0, .int .i64 0, .int .i64 0, .int .i64 0, .int .i64 0, .int .i64 0] : AV) = .agg [.str (cfgRN s), .str (cfgRA s), .int .i64 (cfgRI s 0), .int .i64 (cfgRI s 1), .int .i64 (cfgRI s 2), .int .i64 (cfgRI s 3), .int .i64 (cfgRI s 4), .int .i64 (cfgRI s 5), .int .i64 (cfgRI s 6), .int .i64 (cfgRI s 7), .int .i64 (cfgRI s 8), .int .i64 (cfgRI s 9), .int .i64 (cfgRI s 10), .int .i64 (cfgRI s 11), .int .i64 (cfgRI s 12), .int .i64 (cfgRI s 13), .int .i64 (cfgRI s 14), .int .i64 (cfgRI s 15)] ∧ (3 : Int) = cfgRE s := fun h => by
    have hi : ∀ i, cfgRI s i = 0 := fun i => by simp [cfgRI, h]
    simp only [hi, cfgRN, cfgRA, cfgRE, h, Bool.false_eq_true, if_false, and_self]
  refine ⟨hs, fun h => bad ?_, fun h => ?_⟩
  · simp only [cfgHas, Bool.and_eq_false_iff, decide_eq_false_iff_not]
    exact .inl (by omega)
  refine VL_inv (X := Nat) (fun k => ⟨[(0, .str s), (2, .ptr 48 0 0 1), (4, enc_strs (splitB 32 s)), (5, .ref 272 0 k k), (6, .int .i64 ((k + 2 : Nat) : Int))], [(272, .cells 1 false (.int .i64 0) (((cfgNs cfgMax s).take k).map (.int .i64))), (48, .cells 18 false cfz [cfz])]⟩) (fun k => k ≤ 16) (fun k => 16 - k) 0 ?_ ?_ ?_
  · simp only [T_specParseR, Go.Proofs.Tryd.Cfg.tb_specWords, Go.Proofs.Tryd.Cfg.tb_specPrintR, Go.Proofs.Tryd.Dig.tb_specNumberR, go_sem, seval, cfz, one1, cfgNs, cfgL]
    try rfl
  · exact Nat.zero_le _
  intro k hk
  by_cases hk2 : k < 16
  · have tl : ((cfgNs cfgMax s).take k).length = k := by rw [List.length_take, cfgNs_len]; omega
    have ts := take_succ_getD (s := cfgNs cfgMax s) (x := k) 0 (by rw [cfgNs_len]; exact hk2)
    rw [cfgNs_get _ _ _ hk2] at ts
    generalize (cfgNs cfgMax s) = L at *
    simp (config := {maxSteps := 2000000}) only [tl, T_specParseR, Go.Proofs.Tryd.Cfg.tb_specWords, Go.Proofs.Tryd.Cfg.tb_specPrintR, Go.Proofs.Tryd.Dig.tb_specNumberR, go_sem, seval, cfz, one1, cfgNs, cfgL]
    (try simp (config := {maxSteps := 2000000}) only [gimp, impB, isT, go_sem, seval])
    have wl := getD_split_len 32 s (k + 2)
    exact ⟨fun hlt => ⟨by omega, by omega, by omega, by omega, k + 1, ⟨⟨rfl, by omega⟩, by rw [ts, List.map_append]; rfl⟩, by omega, by omega⟩, fun h => absurd h (by omega)⟩
  · have e : k = 16 := by omega
    subst e
    rw [List.take_of_length_le (by rw [cfgNs_len]; exact Nat.le_refl _)]
    simp (config := {maxSteps := 2000000}) only [T_specParseR, Go.Proofs.Tryd.Cfg.tb_specWords, Go.Proofs.Tryd.Cfg.tb_specPrintR, Go.Proofs.Tryd.Dig.tb_specNumberR, go_sem, seval, cfz, one1, cfgNs, cfgL]
    (try simp (config := {maxSteps := 2000000}) only [gimp, impB, isT, go_sem, seval])
    have ha1 : (splitB 32 s).getD 1 [] = [45] → cfgA1 s = [] := fun h => by simp only [cfgA1, cfgW1, h, if_true]
    have ha2 : ¬ (splitB 32 s).getD 1 [] = [45] → cfgA1 s = (splitB 32 s).getD 1 [] := fun h => by rw [cfgA1, cfgW1, if_neg h]
    have l0 := getD_split_len 32 s 0
    have l1 := getD_split_len 32 s 1
    have fin : ∀ au, cfgA1 s = au → (s = [] ∨ ¬ cfgText (cfgNm s) au (cfgNs cfgMax s) = s → (.agg [.str [], .str [], .int .i64 0, .int .i64 0, .int .i64 0, .int .i64 0, .int .i64 0, .int .i64 0, .int .i64 0, .int .i64 0, .int .i64 0, .int .i64 0, .int .i64 0, .int .i64 0, .int .i64 0, .int .i64 0, .int .i64 0, .int .i64 0] : AV) = .agg [.str (cfgRN s), .str (cfgRA s), .int .i64 (cfgRI s 0), .int .i64 (cfgRI s 1), .int .i64 (cfgRI s 2), .int .i64 (cfgRI s 3), .int .i64 (cfgRI s 4), .int .i64 (cfgRI s 5), .int .i64 (cfgRI s 6), .int .i64 (cfgRI s 7), .int .i64 (cfgRI s 8), .int .i64 (cfgRI s 9), .int .i64 (cfgRI s 10), .int .i64 (cfgRI s 11), .int .i64 (cfgRI s 12), .int .i64 (cfgRI s 13), .int .i64 (cfgRI s 14), .int .i64 (cfgRI s 15)] ∧ (3 : Int) = cfgRE s) ∧ (¬ s = [] → cfgText (cfgNm s) au (cfgNs cfgMax s) = s → (.agg [.str (cfgNm s), .str au, .int .i64 (cfgN cfgMax s 0), .int .i64 (cfgN cfgMax s 1), .int .i64 (cfgN cfgMax s 2), .int .i64 (cfgN cfgMax s 3), .int .i64 (cfgN cfgMax s 4), .int .i64 (cfgN cfgMax s 5), .int .i64 (cfgN cfgMax s 6), .int .i64 (cfgN cfgMax s 7), .int .i64 (cfgN cfgMax s 8), .int .i64 (cfgN cfgMax s 9), .int .i64 (cfgN cfgMax s 10), .int .i64 (cfgN cfgMax s 11), .int .i64 (cfgN cfgMax s 12), .int .i64 (cfgN cfgMax s 13), .int .i64 (cfgN cfgMax s 14), .int .i64 (cfgN cfgMax s 15)] : AV) = .agg [.str (cfgRN s), .str (cfgRA s), .int .i64 (cfgRI s 0), .int .i64 (cfgRI s 1), .int .i64 (cfgRI s 2), .int .i64 (cfgRI s 3), .int .i64 (cfgRI s 4), .int .i64 (cfgRI s 5), .int .i64 (cfgRI s 6), .int .i64 (cfgRI s 7), .int .i64 (cfgRI s 8), .int .i64 (cfgRI s 9), .int .i64 (cfgRI s 10), .int .i64 (cfgRI s 11), .int .i64 (cfgRI s 12), .int .i64 (cfgRI s 13), .int .i64 (cfgRI s 14), .int .i64 (cfgRI s 15)] ∧ (0 : Int) = cfgRE s) := by
      rintro au rfl
      refine ⟨fun hb => bad ?_, fun h1 h2 => ?_⟩
      · rw [← cfgHas_eq]
        simp only [cfgHas, Bool.and_eq_false_iff, Bool.not_eq_false', decide_eq_false_iff_not, decide_eq_true_eq]
        exact .inr hb
      · have hh : cfgHas cfgTo s = true := by
          rw [← cfgHas_eq]
          simp only [cfgHas, Bool.and_eq_true, Bool.not_eq_true', decide_eq_false_iff_not, decide_eq_true_eq]
          exact ⟨by omega, h1, h2⟩
        simp only [cfgRN, cfgRA, cfgRI, cfgRE, hh, if_true, cfgN_eq hh 0 (by decide), cfgN_eq hh 1 (by decide), cfgN_eq hh 2 (by decide), cfgN_eq hh 3 (by decide), cfgN_eq hh 4 (by decide), cfgN_eq hh 5 (by decide), cfgN_eq hh 6 (by decide), cfgN_eq hh 7 (by decide), cfgN_eq hh 8 (by decide), cfgN_eq hh 9 (by decide), cfgN_eq hh 10 (by decide), cfgN_eq hh 11 (by decide), cfgN_eq hh 12 (by decide), cfgN_eq hh 13 (by decide), cfgN_eq hh 14 (by decide), cfgN_eq hh 15 (by decide)]
        exact ⟨trivial, trivial⟩
    exact ⟨by omega, by omega, by omega, fun h1 => ⟨fun _ => by omega, (fin _ (ha1 h1)).1, (fin _ (ha1 h1)).2⟩, fun h1 => ⟨⟨fun _ => by omega, fun _ => by omega⟩, (fin _ (ha2 h1)).1, (fin _ (ha2 h1)).2⟩⟩
def tb_specParseR : List Blk → List AV → Option (List Blk × AV × Prop)
  | [], [.str s] => some ([], .tuple [.agg [.str (cfgRN s), .str (cfgRA s), .int .i64 (cfgRI s 0), .int .i64 (cfgRI s 1), .int .i64 (cfgRI s 2), .int .i64 (cfgRI s 3), .int .i64 (cfgRI s 4), .int .i64 (cfgRI s 5), .int .i64 (cfgRI s 6), .int .i64 (cfgRI s 7), .int .i64 (cfgRI s 8), .int .i64 (cfgRI s 9), .int .i64 (cfgRI s 10), .int .i64 (cfgRI s 11), .int .i64 (cfgRI s 12), .int .i64 (cfgRI s 13), .int .i64 (cfgRI s 14), .int .i64 (cfgRI s 15)], .int .i64 (cfgRE s)], (s.length ≤ 1000000))
  | _, _ => none
theorem tb_specParseR_ok : ∀ E args E' res p, tb_specParseR E args = some (E', res, p) → p → SpecE Tryd.prog 8 E args E' res := by
  intro E args E' res p h hp
  unfold tb_specParseR at h
  split at h
  · simp only [Option.some.injEq, Prod.mk.injEq] at h
    obtain ⟨rfl, rfl, rfl⟩ := h
    exact (specParseR _ hp)
  · cases h

def T_specLawParses : Tbl := fun g E args => (addT (addT (addT nilT 7 Go.Proofs.Tryd.Cfg.tb_specParse) 8 Go.Proofs.Tryd.Cfg.tb_specParseR) 9 Go.Proofs.Tryd.Cfg.tb_specLives) g E args
theorem T_specLawParses_ok : TblOK Tryd.prog T_specLawParses := (addT_ok (addT_ok (addT_ok nilT_ok (by decide +kernel) Go.Proofs.Tryd.Cfg.tb_specParse_ok) (by decide +kernel) Go.Proofs.Tryd.Cfg.tb_specParseR_ok) (by decide +kernel) Go.Proofs.Tryd.Cfg.tb_specLives_ok)
set_option maxRecDepth 100000 in
set_option maxHeartbeats 4000000 in
theorem specLawParses (s : List UInt8) (hs : s.length ≤ maxLen) : SpecE Tryd.prog 3 [] [.str s] [] (.bool true) := by
  refine specF0 (C := T_specLawParses) (wr := false) (D := fun _ => []) (U := fun _ => none) (res := [.bool true]) Tryd.Ty.mixed T_specLawParses_ok Tryd.func3 (nA := 1) (by decide +kernel) rfl (fun _ => rfl) ?_
  simp only [Tryd.f3, bodyOf, rlOf]
  rw [W_V]
  simp (config := {maxSteps := 2000000}) only [T_specLawParses, Go.Proofs.Tryd.Cfg.tb_specParse, Go.Proofs.Tryd.Cfg.tb_specParseR, Go.Proofs.Tryd.Cfg.tb_specLives, go_sem, seval]
  (try simp (config := {maxSteps := 2000000}) only [gimp, impB, isT, go_sem, seval])
  rw [List.length_take]; omega
def tb_specLawParses : List Blk → List AV → Option (List Blk × AV × Prop)
  | [], [.str s] => some ([], .bool true, (s.length ≤ maxLen))
  | _, _ => none
theorem tb_specLawParses_ok : ∀ E args E' res p, tb_specLawParses E args = some (E', res, p) → p → SpecE Tryd.prog 3 E args E' res := by
  intro E args E' res p h hp
  unfold tb_specLawParses at h
  split at h
  · simp only [Option.some.injEq, Prod.mk.injEq] at h
    obtain ⟨rfl, rfl, rfl⟩ := h
    exact (specLawParses _ hp)
  · cases h

end Go.Proofs.Tryd.Cfg
