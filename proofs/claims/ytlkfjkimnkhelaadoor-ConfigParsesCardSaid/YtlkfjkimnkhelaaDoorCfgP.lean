/- config: the settings that a text is: the walks. No condition beyond those that a machine's numbers bring. -/
import Derived.Test.YtlkfjkimnkhelaaDoorCfg
import Derived.Test.YtlkfjkimnkhelaaDoorCfgN
set_option linter.unusedVariables false
set_option linter.unusedSimpArgs false
namespace Go.Proofs.Tryd.Cfg
open Go Go.Abs Go.Proofs Go.Mdl

def T_specParse : Tbl := fun g E args => (addT (addT (addT (addT nilT 17 Go.Proofs.Tryd.Lib.tb_specSplit) 18 Go.Proofs.Tryd.Cfg.tb_specBounds) 20 Go.Proofs.Tryd.Cfg.tb_specPrint) 19 Go.Proofs.Tryd.Dig.tb_specDec) g E args
theorem T_specParse_ok : TblOK Tryd.prog T_specParse := (addT_ok (addT_ok (addT_ok (addT_ok nilT_ok (by decide +kernel) Go.Proofs.Tryd.Lib.tb_specSplit_ok) (by decide +kernel) Go.Proofs.Tryd.Cfg.tb_specBounds_ok) (by decide +kernel) Go.Proofs.Tryd.Cfg.tb_specPrint_ok) (by decide +kernel) Go.Proofs.Tryd.Dig.tb_specDec_ok)
set_option maxRecDepth 100000 in
set_option maxHeartbeats 4000000 in
theorem specParse (s : List UInt8) (hs : s.length ≤ 1000000) : SpecE Tryd.prog 7 [] [.str s] [] (.tuple [.agg [.str (cfgRN s), .str (cfgRA s), .int .i64 (cfgRI s 0), .int .i64 (cfgRI s 1), .int .i64 (cfgRI s 2), .int .i64 (cfgRI s 3), .int .i64 (cfgRI s 4), .int .i64 (cfgRI s 5), .int .i64 (cfgRI s 6), .int .i64 (cfgRI s 7), .int .i64 (cfgRI s 8), .int .i64 (cfgRI s 9), .int .i64 (cfgRI s 10), .int .i64 (cfgRI s 11), .int .i64 (cfgRI s 12), .int .i64 (cfgRI s 13), .int .i64 (cfgRI s 14), .int .i64 (cfgRI s 15)], .int .i64 (cfgRE s)]) := by
  refine specF0 (C := T_specParse) (wr := false) (D := fun i => if i = 6 then [7, 9] else if i = 12 then [18] else []) (U := fun i => if i = 9 then some ⟨Unit, fun _ => ⟨[(0, .str s), (2, .ptr 48 0 0 1), (4, enc_strs (splitB 32 s)), (5, .ptr 96 0 0 1), (6, .ptr 112 0 0 48)], [(96, .cells 18 false cfz [.agg [.str (cfgNm s), .str (cfgA1 s), .int .i64 0, .int .i64 0, .int .i64 0, .int .i64 0, .int .i64 0, .int .i64 0, .int .i64 0, .int .i64 0, .int .i64 0, .int .i64 0, .int .i64 0, .int .i64 0, .int .i64 0, .int .i64 0, .int .i64 0, .int .i64 0]]), (48, .cells 18 false cfz [cfz]), (112, .cells 1 false (.agg [.nilp, .int .i64 0, .int .i64 0]) [.ptr 96 0 2 1, .int .i64 0, .int .i64 1, .ptr 96 0 3 1, .int .i64 0, .int .i64 1, .ptr 96 0 4 1, .int .i64 0, .int .i64 1, .ptr 96 0 5 1, .int .i64 0, .int .i64 1, .ptr 96 0 6 1, .int .i64 1, .int .i64 65536, .ptr 96 0 7 1, .int .i64 1, .int .i64 65536, .ptr 96 0 8 1, .int .i64 0, .int .i64 100, .ptr 96 0 9 1, .int .i64 0, .int .i64 1073741824, .ptr 96 0 10 1, .int .i64 1, .int .i64 16, .ptr 96 0 11 1, .int .i64 1, .int .i64 16, .ptr 96 0 12 1, .int .i64 0, .int .i64 1, .ptr 96 0 13 1, .int .i64 16, .int .i64 65536, .ptr 96 0 14 1, .int .i64 1, .int .i64 1000, .ptr 96 0 15 1, .int .i64 3, .int .i64 4096, .ptr 96 0 16 1, .int .i64 0, .int .i64 1048576, .ptr 96 0 17 1, .int .i64 0, .int .i64 1])]⟩, fun _ => (splitB 32 s).length = 18⟩ else none) (res := [.agg [.str (cfgRN s), .str (cfgRA s), .int .i64 (cfgRI s 0), .int .i64 (cfgRI s 1), .int .i64 (cfgRI s 2), .int .i64 (cfgRI s 3), .int .i64 (cfgRI s 4), .int .i64 (cfgRI s 5), .int .i64 (cfgRI s 6), .int .i64 (cfgRI s 7), .int .i64 (cfgRI s 8), .int .i64 (cfgRI s 9), .int .i64 (cfgRI s 10), .int .i64 (cfgRI s 11), .int .i64 (cfgRI s 12), .int .i64 (cfgRI s 13), .int .i64 (cfgRI s 14), .int .i64 (cfgRI s 15)], .int .i64 (cfgRE s)]) Tryd.Ty.mixed T_specParse_ok Tryd.func7 (nA := 1) (by decide +kernel) rfl (fun _ => rfl) ?_
  simp only [Tryd.f7, bodyOf, rlOf]
  rw [W_V]
  simp (config := {maxSteps := 2000000}) only [T_specParse, Go.Proofs.Tryd.Lib.tb_specSplit, Go.Proofs.Tryd.Cfg.tb_specBounds, Go.Proofs.Tryd.Cfg.tb_specPrint, Go.Proofs.Tryd.Dig.tb_specDec, go_sem, seval, cfz, cfgK, one1]
  (try simp (config := {maxSteps := 2000000}) only [gimp, impB, isT, go_sem, seval])
  have bad : cfgHas cfgTo s = false → (.agg [.str [], .str [], .int .i64 0, .int .i64 0, .int .i64 0, .int .i64 0, .int .i64 0, .int .i64 0, .int .i64 0, .int .i64 0, .int .i64 0, .int .i64 0, .int .i64 0, .int .i64 0, .int .i64 0, .int .i64 0, .int .i64 0, .int .i64 0] : AV) = .agg [.str (cfgRN s), .str (cfgRA s), .int .i64 (cfgRI s 0), .int .i64 (cfgRI s 1), .int .i64 (cfgRI s 2), .int .i64 (cfgRI s 3), .int .i64 (cfgRI s 4), .int .i64 (cfgRI s 5), .int .i64 (cfgRI s 6), .int .i64 (cfgRI s 7), .int .i64 (cfgRI s 8), .int .i64 (cfgRI s 9), .int .i64 (cfgRI s 10), .int .i64 (cfgRI s 11), .int .i64 (cfgRI s 12), .int .i64 (cfgRI s 13), .int .i64 (cfgRI s 14), .int .i64 (cfgRI s 15)] ∧ (3 : Int) = cfgRE s := fun h => by
    have hi : ∀ i, cfgRI s i = 0 := fun i => by simp [cfgRI, h]
    simp only [hi, cfgRN, cfgRA, cfgRE, h, Bool.false_eq_true, if_false, and_self]
  have ha1 : (splitB 32 s).getD 1 [] = [45] → cfgA1 s = [] := fun h => by simp only [cfgA1, cfgW1, h, if_true]
  have ha2 : ¬ (splitB 32 s).getD 1 [] = [45] → cfgA1 s = (splitB 32 s).getD 1 [] := fun h => by rw [cfgA1, cfgW1, if_neg h]
  refine ⟨by omega, fun h => bad ?_, fun h => ⟨by omega, by omega, ⟨fun h1 => ⟨(), by rw [ha1 h1]; rfl, by omega⟩, fun h1 => ⟨(), by rw [ha2 h1]; rfl, by omega⟩⟩, fun h18 => ?_⟩⟩
  · simp only [cfgHas, Bool.and_eq_false_iff, decide_eq_false_iff_not]
    exact .inl (by omega)
  clear ha1 ha2
  refine VL_inv (X := Int) (fun k => ⟨[(0, .str s), (2, .ptr 48 0 0 1), (4, enc_strs (splitB 32 s)), (5, .ptr 96 0 0 1), (6, .ptr 112 0 0 48), (27, .int .i64 k)], [(96, .cells 18 false cfz [.agg [.str (cfgNm s), .str (cfgA1 s), .int .i64 (cfgK s k 0), .int .i64 (cfgK s k 1), .int .i64 (cfgK s k 2), .int .i64 (cfgK s k 3), .int .i64 (cfgK s k 4), .int .i64 (cfgK s k 5), .int .i64 (cfgK s k 6), .int .i64 (cfgK s k 7), .int .i64 (cfgK s k 8), .int .i64 (cfgK s k 9), .int .i64 (cfgK s k 10), .int .i64 (cfgK s k 11), .int .i64 (cfgK s k 12), .int .i64 (cfgK s k 13), .int .i64 (cfgK s k 14), .int .i64 (cfgK s k 15)]]), (48, .cells 18 false cfz [cfz]), (112, .cells 1 false (.agg [.nilp, .int .i64 0, .int .i64 0]) [.ptr 96 0 2 1, .int .i64 0, .int .i64 1, .ptr 96 0 3 1, .int .i64 0, .int .i64 1, .ptr 96 0 4 1, .int .i64 0, .int .i64 1, .ptr 96 0 5 1, .int .i64 0, .int .i64 1, .ptr 96 0 6 1, .int .i64 1, .int .i64 65536, .ptr 96 0 7 1, .int .i64 1, .int .i64 65536, .ptr 96 0 8 1, .int .i64 0, .int .i64 100, .ptr 96 0 9 1, .int .i64 0, .int .i64 1073741824, .ptr 96 0 10 1, .int .i64 1, .int .i64 16, .ptr 96 0 11 1, .int .i64 1, .int .i64 16, .ptr 96 0 12 1, .int .i64 0, .int .i64 1, .ptr 96 0 13 1, .int .i64 16, .int .i64 65536, .ptr 96 0 14 1, .int .i64 1, .int .i64 1000, .ptr 96 0 15 1, .int .i64 3, .int .i64 4096, .ptr 96 0 16 1, .int .i64 0, .int .i64 1048576, .ptr 96 0 17 1, .int .i64 0, .int .i64 1])]⟩) (fun k => 0 ≤ k ∧ k ≤ 16) (fun k => (16 - k).toNat) 0 ?_ ?_ ?_
  · simp only [T_specParse, Go.Proofs.Tryd.Lib.tb_specSplit, Go.Proofs.Tryd.Cfg.tb_specBounds, Go.Proofs.Tryd.Cfg.tb_specPrint, Go.Proofs.Tryd.Dig.tb_specDec, go_sem, seval, cfz, cfgK, one1]
  · exact ⟨by decide, by decide⟩
  rintro k ⟨hk0, hk⟩
  have hc : k = 0 ∨ k = 1 ∨ k = 2 ∨ k = 3 ∨ k = 4 ∨ k = 5 ∨ k = 6 ∨ k = 7 ∨ k = 8 ∨ k = 9 ∨ k = 10 ∨ k = 11 ∨ k = 12 ∨ k = 13 ∨ k = 14 ∨ k = 15 ∨ k = 16 := by omega
  rcases hc with rfl | rfl | rfl | rfl | rfl | rfl | rfl | rfl | rfl | rfl | rfl | rfl | rfl | rfl | rfl | rfl | rfl
  · simp (config := {maxSteps := 2000000}) only [T_specParse, Go.Proofs.Tryd.Lib.tb_specSplit, Go.Proofs.Tryd.Cfg.tb_specBounds, Go.Proofs.Tryd.Cfg.tb_specPrint, Go.Proofs.Tryd.Dig.tb_specDec, go_sem, seval, cfz, cfgK, one1]
    (try simp (config := {maxSteps := 2000000}) only [gimp, impB, isT, go_sem, seval])
    exact ⟨by omega, 1, ⟨rfl, rfl⟩, ⟨by decide, by decide⟩, by decide⟩
  · simp (config := {maxSteps := 2000000}) only [T_specParse, Go.Proofs.Tryd.Lib.tb_specSplit, Go.Proofs.Tryd.Cfg.tb_specBounds, Go.Proofs.Tryd.Cfg.tb_specPrint, Go.Proofs.Tryd.Dig.tb_specDec, go_sem, seval, cfz, cfgK, one1]
    (try simp (config := {maxSteps := 2000000}) only [gimp, impB, isT, go_sem, seval])
    exact ⟨by omega, 2, ⟨rfl, rfl⟩, ⟨by decide, by decide⟩, by decide⟩
  · simp (config := {maxSteps := 2000000}) only [T_specParse, Go.Proofs.Tryd.Lib.tb_specSplit, Go.Proofs.Tryd.Cfg.tb_specBounds, Go.Proofs.Tryd.Cfg.tb_specPrint, Go.Proofs.Tryd.Dig.tb_specDec, go_sem, seval, cfz, cfgK, one1]
    (try simp (config := {maxSteps := 2000000}) only [gimp, impB, isT, go_sem, seval])
    exact ⟨by omega, 3, ⟨rfl, rfl⟩, ⟨by decide, by decide⟩, by decide⟩
  · simp (config := {maxSteps := 2000000}) only [T_specParse, Go.Proofs.Tryd.Lib.tb_specSplit, Go.Proofs.Tryd.Cfg.tb_specBounds, Go.Proofs.Tryd.Cfg.tb_specPrint, Go.Proofs.Tryd.Dig.tb_specDec, go_sem, seval, cfz, cfgK, one1]
    (try simp (config := {maxSteps := 2000000}) only [gimp, impB, isT, go_sem, seval])
    exact ⟨by omega, 4, ⟨rfl, rfl⟩, ⟨by decide, by decide⟩, by decide⟩
  · simp (config := {maxSteps := 2000000}) only [T_specParse, Go.Proofs.Tryd.Lib.tb_specSplit, Go.Proofs.Tryd.Cfg.tb_specBounds, Go.Proofs.Tryd.Cfg.tb_specPrint, Go.Proofs.Tryd.Dig.tb_specDec, go_sem, seval, cfz, cfgK, one1]
    (try simp (config := {maxSteps := 2000000}) only [gimp, impB, isT, go_sem, seval])
    exact ⟨by omega, 5, ⟨rfl, rfl⟩, ⟨by decide, by decide⟩, by decide⟩
  · simp (config := {maxSteps := 2000000}) only [T_specParse, Go.Proofs.Tryd.Lib.tb_specSplit, Go.Proofs.Tryd.Cfg.tb_specBounds, Go.Proofs.Tryd.Cfg.tb_specPrint, Go.Proofs.Tryd.Dig.tb_specDec, go_sem, seval, cfz, cfgK, one1]
    (try simp (config := {maxSteps := 2000000}) only [gimp, impB, isT, go_sem, seval])
    exact ⟨by omega, 6, ⟨rfl, rfl⟩, ⟨by decide, by decide⟩, by decide⟩
  · simp (config := {maxSteps := 2000000}) only [T_specParse, Go.Proofs.Tryd.Lib.tb_specSplit, Go.Proofs.Tryd.Cfg.tb_specBounds, Go.Proofs.Tryd.Cfg.tb_specPrint, Go.Proofs.Tryd.Dig.tb_specDec, go_sem, seval, cfz, cfgK, one1]
    (try simp (config := {maxSteps := 2000000}) only [gimp, impB, isT, go_sem, seval])
    exact ⟨by omega, 7, ⟨rfl, rfl⟩, ⟨by decide, by decide⟩, by decide⟩
  · simp (config := {maxSteps := 2000000}) only [T_specParse, Go.Proofs.Tryd.Lib.tb_specSplit, Go.Proofs.Tryd.Cfg.tb_specBounds, Go.Proofs.Tryd.Cfg.tb_specPrint, Go.Proofs.Tryd.Dig.tb_specDec, go_sem, seval, cfz, cfgK, one1]
    (try simp (config := {maxSteps := 2000000}) only [gimp, impB, isT, go_sem, seval])
    exact ⟨by omega, 8, ⟨rfl, rfl⟩, ⟨by decide, by decide⟩, by decide⟩
  · simp (config := {maxSteps := 2000000}) only [T_specParse, Go.Proofs.Tryd.Lib.tb_specSplit, Go.Proofs.Tryd.Cfg.tb_specBounds, Go.Proofs.Tryd.Cfg.tb_specPrint, Go.Proofs.Tryd.Dig.tb_specDec, go_sem, seval, cfz, cfgK, one1]
    (try simp (config := {maxSteps := 2000000}) only [gimp, impB, isT, go_sem, seval])
    exact ⟨by omega, 9, ⟨rfl, rfl⟩, ⟨by decide, by decide⟩, by decide⟩
  · simp (config := {maxSteps := 2000000}) only [T_specParse, Go.Proofs.Tryd.Lib.tb_specSplit, Go.Proofs.Tryd.Cfg.tb_specBounds, Go.Proofs.Tryd.Cfg.tb_specPrint, Go.Proofs.Tryd.Dig.tb_specDec, go_sem, seval, cfz, cfgK, one1]
    (try simp (config := {maxSteps := 2000000}) only [gimp, impB, isT, go_sem, seval])
    exact ⟨by omega, 10, ⟨rfl, rfl⟩, ⟨by decide, by decide⟩, by decide⟩
  · simp (config := {maxSteps := 2000000}) only [T_specParse, Go.Proofs.Tryd.Lib.tb_specSplit, Go.Proofs.Tryd.Cfg.tb_specBounds, Go.Proofs.Tryd.Cfg.tb_specPrint, Go.Proofs.Tryd.Dig.tb_specDec, go_sem, seval, cfz, cfgK, one1]
    (try simp (config := {maxSteps := 2000000}) only [gimp, impB, isT, go_sem, seval])
    exact ⟨by omega, 11, ⟨rfl, rfl⟩, ⟨by decide, by decide⟩, by decide⟩
  · simp (config := {maxSteps := 2000000}) only [T_specParse, Go.Proofs.Tryd.Lib.tb_specSplit, Go.Proofs.Tryd.Cfg.tb_specBounds, Go.Proofs.Tryd.Cfg.tb_specPrint, Go.Proofs.Tryd.Dig.tb_specDec, go_sem, seval, cfz, cfgK, one1]
    (try simp (config := {maxSteps := 2000000}) only [gimp, impB, isT, go_sem, seval])
    exact ⟨by omega, 12, ⟨rfl, rfl⟩, ⟨by decide, by decide⟩, by decide⟩
  · simp (config := {maxSteps := 2000000}) only [T_specParse, Go.Proofs.Tryd.Lib.tb_specSplit, Go.Proofs.Tryd.Cfg.tb_specBounds, Go.Proofs.Tryd.Cfg.tb_specPrint, Go.Proofs.Tryd.Dig.tb_specDec, go_sem, seval, cfz, cfgK, one1]
    (try simp (config := {maxSteps := 2000000}) only [gimp, impB, isT, go_sem, seval])
    exact ⟨by omega, 13, ⟨rfl, rfl⟩, ⟨by decide, by decide⟩, by decide⟩
  · simp (config := {maxSteps := 2000000}) only [T_specParse, Go.Proofs.Tryd.Lib.tb_specSplit, Go.Proofs.Tryd.Cfg.tb_specBounds, Go.Proofs.Tryd.Cfg.tb_specPrint, Go.Proofs.Tryd.Dig.tb_specDec, go_sem, seval, cfz, cfgK, one1]
    (try simp (config := {maxSteps := 2000000}) only [gimp, impB, isT, go_sem, seval])
    exact ⟨by omega, 14, ⟨rfl, rfl⟩, ⟨by decide, by decide⟩, by decide⟩
  · simp (config := {maxSteps := 2000000}) only [T_specParse, Go.Proofs.Tryd.Lib.tb_specSplit, Go.Proofs.Tryd.Cfg.tb_specBounds, Go.Proofs.Tryd.Cfg.tb_specPrint, Go.Proofs.Tryd.Dig.tb_specDec, go_sem, seval, cfz, cfgK, one1]
    (try simp (config := {maxSteps := 2000000}) only [gimp, impB, isT, go_sem, seval])
    exact ⟨by omega, 15, ⟨rfl, rfl⟩, ⟨by decide, by decide⟩, by decide⟩
  · simp (config := {maxSteps := 2000000}) only [T_specParse, Go.Proofs.Tryd.Lib.tb_specSplit, Go.Proofs.Tryd.Cfg.tb_specBounds, Go.Proofs.Tryd.Cfg.tb_specPrint, Go.Proofs.Tryd.Dig.tb_specDec, go_sem, seval, cfz, cfgK, one1]
    (try simp (config := {maxSteps := 2000000}) only [gimp, impB, isT, go_sem, seval])
    exact ⟨by omega, 16, ⟨rfl, rfl⟩, ⟨by decide, by decide⟩, by decide⟩
  · simp (config := {maxSteps := 2000000}) only [T_specParse, Go.Proofs.Tryd.Lib.tb_specSplit, Go.Proofs.Tryd.Cfg.tb_specBounds, Go.Proofs.Tryd.Cfg.tb_specPrint, Go.Proofs.Tryd.Dig.tb_specDec, go_sem, seval, cfz, cfgK, one1]
    (try simp (config := {maxSteps := 2000000}) only [gimp, impB, isT, go_sem, seval])
    have l0 : (cfgNm s).length ≤ s.length := getD_split_len 32 s 0
    have l1 : (cfgA1 s).length ≤ s.length := by
      unfold cfgA1
      split
      · simp
      · exact getD_split_len 32 s 1
    refine ⟨⟨fun _ => by omega, fun _ => by omega⟩, fun hb => bad ?_, fun h1 h2 => ?_⟩
    · simp only [cfgHas, Bool.and_eq_false_iff, Bool.not_eq_false', decide_eq_false_iff_not, decide_eq_true_eq]
      exact .inr hb
    · have hh : cfgHas cfgTo s = true := by
        simp only [cfgHas, Bool.and_eq_true, Bool.not_eq_true', decide_eq_false_iff_not, decide_eq_true_eq]
        exact ⟨h18, h1, h2⟩
      simp only [cfgRN, cfgRA, cfgRI, cfgRE, hh, if_true]
      exact ⟨trivial, trivial⟩
def tb_specParse : List Blk → List AV → Option (List Blk × AV × Prop)
  | [], [.str s] => some ([], .tuple [.agg [.str (cfgRN s), .str (cfgRA s), .int .i64 (cfgRI s 0), .int .i64 (cfgRI s 1), .int .i64 (cfgRI s 2), .int .i64 (cfgRI s 3), .int .i64 (cfgRI s 4), .int .i64 (cfgRI s 5), .int .i64 (cfgRI s 6), .int .i64 (cfgRI s 7), .int .i64 (cfgRI s 8), .int .i64 (cfgRI s 9), .int .i64 (cfgRI s 10), .int .i64 (cfgRI s 11), .int .i64 (cfgRI s 12), .int .i64 (cfgRI s 13), .int .i64 (cfgRI s 14), .int .i64 (cfgRI s 15)], .int .i64 (cfgRE s)], (s.length ≤ 1000000))
  | _, _ => none
theorem tb_specParse_ok : ∀ E args E' res p, tb_specParse E args = some (E', res, p) → p → SpecE Tryd.prog 7 E args E' res := by
  intro E args E' res p h hp
  unfold tb_specParse at h
  split at h
  · simp only [Option.some.injEq, Prod.mk.injEq] at h
    obtain ⟨rfl, rfl, rfl⟩ := h
    exact (specParse _ hp)
  · cases h

end Go.Proofs.Tryd.Cfg
