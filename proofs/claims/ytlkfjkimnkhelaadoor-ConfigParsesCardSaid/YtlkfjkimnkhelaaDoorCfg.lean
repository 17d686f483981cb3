/- config: the walks of the program and of the document's answer. No condition beyond those that a machine's numbers bring. -/
import Derived.Test.YtlkfjkimnkhelaaDoorCfgM
set_option linter.unusedVariables false
set_option linter.unusedSimpArgs false
namespace Go.Proofs.Tryd.Cfg
open Go Go.Abs Go.Proofs Go.Mdl

/-- Settings of which nothing is set. -/
def cfz : AV := .agg [.str [], .str [], .int .i64 0, .int .i64 0, .int .i64 0, .int .i64 0, .int .i64 0, .int .i64 0, .int .i64 0, .int .i64 0, .int .i64 0, .int .i64 0, .int .i64 0, .int .i64 0, .int .i64 0, .int .i64 0, .int .i64 0, .int .i64 0]

def T_specBounds : Tbl := fun g E args => nilT g E args
theorem T_specBounds_ok : TblOK Tryd.prog T_specBounds := nilT_ok
set_option maxRecDepth 100000 in
set_option maxHeartbeats 4000000 in
theorem specBounds (nm au : List UInt8) (n0 n1 n2 n3 n4 n5 n6 n7 n8 n9 n10 n11 n12 n13 n14 n15 : Int) : SpecE Tryd.prog 18 [.cells 18 false cfz [.agg [.str nm, .str au, .int .i64 n0, .int .i64 n1, .int .i64 n2, .int .i64 n3, .int .i64 n4, .int .i64 n5, .int .i64 n6, .int .i64 n7, .int .i64 n8, .int .i64 n9, .int .i64 n10, .int .i64 n11, .int .i64 n12, .int .i64 n13, .int .i64 n14, .int .i64 n15]]] [.ptr 0 0 0 1] [.cells 18 false cfz [.agg [.str nm, .str au, .int .i64 n0, .int .i64 n1, .int .i64 n2, .int .i64 n3, .int .i64 n4, .int .i64 n5, .int .i64 n6, .int .i64 n7, .int .i64 n8, .int .i64 n9, .int .i64 n10, .int .i64 n11, .int .i64 n12, .int .i64 n13, .int .i64 n14, .int .i64 n15]]] (.agg [.ptr 0 0 2 1, .int .i64 0, .int .i64 1, .ptr 0 0 3 1, .int .i64 0, .int .i64 1, .ptr 0 0 4 1, .int .i64 0, .int .i64 1, .ptr 0 0 5 1, .int .i64 0, .int .i64 1, .ptr 0 0 6 1, .int .i64 1, .int .i64 65536, .ptr 0 0 7 1, .int .i64 1, .int .i64 65536, .ptr 0 0 8 1, .int .i64 0, .int .i64 100, .ptr 0 0 9 1, .int .i64 0, .int .i64 1073741824, .ptr 0 0 10 1, .int .i64 1, .int .i64 16, .ptr 0 0 11 1, .int .i64 1, .int .i64 16, .ptr 0 0 12 1, .int .i64 0, .int .i64 1, .ptr 0 0 13 1, .int .i64 16, .int .i64 65536, .ptr 0 0 14 1, .int .i64 1, .int .i64 1000, .ptr 0 0 15 1, .int .i64 3, .int .i64 4096, .ptr 0 0 16 1, .int .i64 0, .int .i64 1048576, .ptr 0 0 17 1, .int .i64 0, .int .i64 1]) := by
  refine specFE (C := T_specBounds) (wr := false) (D := fun i => if i = 2 then [65] else []) (U := fun _ => none) (E := [.cells 18 false cfz [.agg [.str nm, .str au, .int .i64 n0, .int .i64 n1, .int .i64 n2, .int .i64 n3, .int .i64 n4, .int .i64 n5, .int .i64 n6, .int .i64 n7, .int .i64 n8, .int .i64 n9, .int .i64 n10, .int .i64 n11, .int .i64 n12, .int .i64 n13, .int .i64 n14, .int .i64 n15]]]) (E' := [.cells 18 false cfz [.agg [.str nm, .str au, .int .i64 n0, .int .i64 n1, .int .i64 n2, .int .i64 n3, .int .i64 n4, .int .i64 n5, .int .i64 n6, .int .i64 n7, .int .i64 n8, .int .i64 n9, .int .i64 n10, .int .i64 n11, .int .i64 n12, .int .i64 n13, .int .i64 n14, .int .i64 n15]]]) (res := [.agg [.ptr 0 0 2 1, .int .i64 0, .int .i64 1, .ptr 0 0 3 1, .int .i64 0, .int .i64 1, .ptr 0 0 4 1, .int .i64 0, .int .i64 1, .ptr 0 0 5 1, .int .i64 0, .int .i64 1, .ptr 0 0 6 1, .int .i64 1, .int .i64 65536, .ptr 0 0 7 1, .int .i64 1, .int .i64 65536, .ptr 0 0 8 1, .int .i64 0, .int .i64 100, .ptr 0 0 9 1, .int .i64 0, .int .i64 1073741824, .ptr 0 0 10 1, .int .i64 1, .int .i64 16, .ptr 0 0 11 1, .int .i64 1, .int .i64 16, .ptr 0 0 12 1, .int .i64 0, .int .i64 1, .ptr 0 0 13 1, .int .i64 16, .int .i64 65536, .ptr 0 0 14 1, .int .i64 1, .int .i64 1000, .ptr 0 0 15 1, .int .i64 3, .int .i64 4096, .ptr 0 0 16 1, .int .i64 0, .int .i64 1048576, .ptr 0 0 17 1, .int .i64 0, .int .i64 1]]) [] Tryd.Ty.mixed T_specBounds_ok Tryd.func18 (args := [.ptr 0 0 0 1]) (nE := 1) (nA := 1) (by decide +kernel) rfl rfl ?_
  simp only [Tryd.f18, bodyOf, rlOf]
  rw [W_V]
  simp (config := {maxSteps := 2000000}) only [T_specBounds, go_sem, seval, Option.some.injEq, false_and, one1, cfz]
  (try simp (config := {maxSteps := 2000000}) only [gimp, impB, isT, go_sem, seval])
def tb_specBounds : List Blk → List AV → Option (List Blk × AV × Prop)
  | [.cells 18 false d [.agg [.str nm, .str au, .int .i64 n0, .int .i64 n1, .int .i64 n2, .int .i64 n3, .int .i64 n4, .int .i64 n5, .int .i64 n6, .int .i64 n7, .int .i64 n8, .int .i64 n9, .int .i64 n10, .int .i64 n11, .int .i64 n12, .int .i64 n13, .int .i64 n14, .int .i64 n15]]], [.ptr 0 0 0 1] => some ([.cells 18 false cfz [.agg [.str nm, .str au, .int .i64 n0, .int .i64 n1, .int .i64 n2, .int .i64 n3, .int .i64 n4, .int .i64 n5, .int .i64 n6, .int .i64 n7, .int .i64 n8, .int .i64 n9, .int .i64 n10, .int .i64 n11, .int .i64 n12, .int .i64 n13, .int .i64 n14, .int .i64 n15]]], .agg [.ptr 0 0 2 1, .int .i64 0, .int .i64 1, .ptr 0 0 3 1, .int .i64 0, .int .i64 1, .ptr 0 0 4 1, .int .i64 0, .int .i64 1, .ptr 0 0 5 1, .int .i64 0, .int .i64 1, .ptr 0 0 6 1, .int .i64 1, .int .i64 65536, .ptr 0 0 7 1, .int .i64 1, .int .i64 65536, .ptr 0 0 8 1, .int .i64 0, .int .i64 100, .ptr 0 0 9 1, .int .i64 0, .int .i64 1073741824, .ptr 0 0 10 1, .int .i64 1, .int .i64 16, .ptr 0 0 11 1, .int .i64 1, .int .i64 16, .ptr 0 0 12 1, .int .i64 0, .int .i64 1, .ptr 0 0 13 1, .int .i64 16, .int .i64 65536, .ptr 0 0 14 1, .int .i64 1, .int .i64 1000, .ptr 0 0 15 1, .int .i64 3, .int .i64 4096, .ptr 0 0 16 1, .int .i64 0, .int .i64 1048576, .ptr 0 0 17 1, .int .i64 0, .int .i64 1], (d = cfz))
  | _, _ => none
theorem tb_specBounds_ok : ∀ E args E' res p, tb_specBounds E args = some (E', res, p) → p → SpecE Tryd.prog 18 E args E' res := by
  intro E args E' res p h hp
  unfold tb_specBounds at h
  split at h
  · simp only [Option.some.injEq, Prod.mk.injEq] at h
    obtain ⟨rfl, rfl, rfl⟩ := h
    obtain rfl := hp
    exact (specBounds _ _ _ _ _ _ _ _ _ _ _ _ _ _ _ _ _ _)
  · cases h

def T_specRight : Tbl := fun g E args => (addT (addT (addT nilT 58 Go.Proofs.Tryd.Host.tb_specKey) 59 Go.Proofs.Tryd.Oct.tb_specToken) 18 Go.Proofs.Tryd.Cfg.tb_specBounds) g E args
theorem T_specRight_ok : TblOK Tryd.prog T_specRight := (addT_ok (addT_ok (addT_ok nilT_ok (by decide +kernel) Go.Proofs.Tryd.Host.tb_specKey_ok) (by decide +kernel) Go.Proofs.Tryd.Oct.tb_specToken_ok) (by decide +kernel) Go.Proofs.Tryd.Cfg.tb_specBounds_ok)
set_option maxRecDepth 100000 in
set_option maxHeartbeats 4000000 in
theorem specRight (nm au : List UInt8) (n0 n1 n2 n3 n4 n5 n6 n7 n8 n9 n10 n11 n12 n13 n14 n15 : Int) (hn : nm.length ≤ 1000000) (ha : au.length ≤ 1000000) : SpecE Tryd.prog 37 [] [.agg [.str nm, .str au, .int .i64 n0, .int .i64 n1, .int .i64 n2, .int .i64 n3, .int .i64 n4, .int .i64 n5, .int .i64 n6, .int .i64 n7, .int .i64 n8, .int .i64 n9, .int .i64 n10, .int .i64 n11, .int .i64 n12, .int .i64 n13, .int .i64 n14, .int .i64 n15]] [] (.int .i64 (cfgErr nm au (cfgL n0 n1 n2 n3 n4 n5 n6 n7 n8 n9 n10 n11 n12 n13 n14 n15))) := by
  refine specF0 (C := T_specRight) (wr := false) (D := fun _ => []) (U := fun _ => none) (res := [.int .i64 (cfgErr nm au (cfgL n0 n1 n2 n3 n4 n5 n6 n7 n8 n9 n10 n11 n12 n13 n14 n15))]) Tryd.Ty.mixed T_specRight_ok Tryd.func37 (nA := 1) (by decide +kernel) rfl (fun _ => rfl) ?_
  simp only [Tryd.f37, bodyOf, rlOf]
  rw [W_V]
  simp (config := {maxSteps := 2000000}) only [T_specRight, Go.Proofs.Tryd.Host.tb_specKey, Go.Proofs.Tryd.Oct.tb_specToken, Go.Proofs.Tryd.Cfg.tb_specBounds, go_sem, seval, cfz]
  (try simp (config := {maxSteps := 2000000}) only [gimp, impB, isT, go_sem, seval])
  refine ⟨ha, fun h => (cfgErr_name h).symm, fun h1 h2 => ⟨fun h3 h4 => (cfgErr_host h1 h2 h3 h4).symm, fun h3 => ?_⟩⟩
  rw [cfgErr_num h1 h2 h3]
  clear h1 h2 h3
  refine VL_inv (X := Int) (fun k => ⟨[(1, .ptr 32 0 0 1), (39, .agg [.ptr 32 0 2 1, .int .i64 0, .int .i64 1, .ptr 32 0 3 1, .int .i64 0, .int .i64 1, .ptr 32 0 4 1, .int .i64 0, .int .i64 1, .ptr 32 0 5 1, .int .i64 0, .int .i64 1, .ptr 32 0 6 1, .int .i64 1, .int .i64 65536, .ptr 32 0 7 1, .int .i64 1, .int .i64 65536, .ptr 32 0 8 1, .int .i64 0, .int .i64 100, .ptr 32 0 9 1, .int .i64 0, .int .i64 1073741824, .ptr 32 0 10 1, .int .i64 1, .int .i64 16, .ptr 32 0 11 1, .int .i64 1, .int .i64 16, .ptr 32 0 12 1, .int .i64 0, .int .i64 1, .ptr 32 0 13 1, .int .i64 16, .int .i64 65536, .ptr 32 0 14 1, .int .i64 1, .int .i64 1000, .ptr 32 0 15 1, .int .i64 3, .int .i64 4096, .ptr 32 0 16 1, .int .i64 0, .int .i64 1048576, .ptr 32 0 17 1, .int .i64 0, .int .i64 1]), (40, .int .i64 k)], [(32, .cells 18 false cfz [.agg [.str nm, .str au, .int .i64 n0, .int .i64 n1, .int .i64 n2, .int .i64 n3, .int .i64 n4, .int .i64 n5, .int .i64 n6, .int .i64 n7, .int .i64 n8, .int .i64 n9, .int .i64 n10, .int .i64 n11, .int .i64 n12, .int .i64 n13, .int .i64 n14, .int .i64 n15]])]⟩) (fun k => 0 ≤ k ∧ k ≤ 16 ∧ ∀ i : Nat, (i : Int) < k → cfgLo.getD i 0 ≤ (cfgL n0 n1 n2 n3 n4 n5 n6 n7 n8 n9 n10 n11 n12 n13 n14 n15).getD i 0 ∧ (cfgL n0 n1 n2 n3 n4 n5 n6 n7 n8 n9 n10 n11 n12 n13 n14 n15).getD i 0 ≤ cfgHi.getD i 0) (fun k => (16 - k).toNat) 0 ?_ ?_ ?_
  · simp only [T_specRight, Go.Proofs.Tryd.Host.tb_specKey, Go.Proofs.Tryd.Oct.tb_specToken, Go.Proofs.Tryd.Cfg.tb_specBounds, go_sem, seval, cfz]
    try rfl
  · exact ⟨by decide, by decide, fun i hi => by omega⟩
  rintro k ⟨hk0, hk, hn⟩
  have hc : k = 0 ∨ k = 1 ∨ k = 2 ∨ k = 3 ∨ k = 4 ∨ k = 5 ∨ k = 6 ∨ k = 7 ∨ k = 8 ∨ k = 9 ∨ k = 10 ∨ k = 11 ∨ k = 12 ∨ k = 13 ∨ k = 14 ∨ k = 15 ∨ k = 16 := by omega
  rcases hc with rfl | rfl | rfl | rfl | rfl | rfl | rfl | rfl | rfl | rfl | rfl | rfl | rfl | rfl | rfl | rfl | rfl
  all_goals simp (config := {maxSteps := 2000000}) only [T_specRight, Go.Proofs.Tryd.Host.tb_specKey, Go.Proofs.Tryd.Oct.tb_specToken, Go.Proofs.Tryd.Cfg.tb_specBounds, go_sem, seval, cfz]
  all_goals (try simp (config := {maxSteps := 2000000}) only [gimp, impB, isT, go_sem, seval])
  · refine ⟨fun h => cfgOk_out 0 (by decide) h, fun g1 g2 => ⟨1, rfl, ⟨by omega, by omega, cfg_next (k := 0) hn ⟨g1, g2⟩⟩, by decide⟩⟩
  · refine ⟨fun h => cfgOk_out 1 (by decide) h, fun g1 g2 => ⟨2, rfl, ⟨by omega, by omega, cfg_next (k := 1) hn ⟨g1, g2⟩⟩, by decide⟩⟩
  · refine ⟨fun h => cfgOk_out 2 (by decide) h, fun g1 g2 => ⟨3, rfl, ⟨by omega, by omega, cfg_next (k := 2) hn ⟨g1, g2⟩⟩, by decide⟩⟩
  · refine ⟨fun h => cfgOk_out 3 (by decide) h, fun g1 g2 => ⟨4, rfl, ⟨by omega, by omega, cfg_next (k := 3) hn ⟨g1, g2⟩⟩, by decide⟩⟩
  · refine ⟨fun h => cfgOk_out 4 (by decide) h, fun g1 g2 => ⟨5, rfl, ⟨by omega, by omega, cfg_next (k := 4) hn ⟨g1, g2⟩⟩, by decide⟩⟩
  · refine ⟨fun h => cfgOk_out 5 (by decide) h, fun g1 g2 => ⟨6, rfl, ⟨by omega, by omega, cfg_next (k := 5) hn ⟨g1, g2⟩⟩, by decide⟩⟩
  · refine ⟨fun h => cfgOk_out 6 (by decide) h, fun g1 g2 => ⟨7, rfl, ⟨by omega, by omega, cfg_next (k := 6) hn ⟨g1, g2⟩⟩, by decide⟩⟩
  · refine ⟨fun h => cfgOk_out 7 (by decide) h, fun g1 g2 => ⟨8, rfl, ⟨by omega, by omega, cfg_next (k := 7) hn ⟨g1, g2⟩⟩, by decide⟩⟩
  · refine ⟨fun h => cfgOk_out 8 (by decide) h, fun g1 g2 => ⟨9, rfl, ⟨by omega, by omega, cfg_next (k := 8) hn ⟨g1, g2⟩⟩, by decide⟩⟩
  · refine ⟨fun h => cfgOk_out 9 (by decide) h, fun g1 g2 => ⟨10, rfl, ⟨by omega, by omega, cfg_next (k := 9) hn ⟨g1, g2⟩⟩, by decide⟩⟩
  · refine ⟨fun h => cfgOk_out 10 (by decide) h, fun g1 g2 => ⟨11, rfl, ⟨by omega, by omega, cfg_next (k := 10) hn ⟨g1, g2⟩⟩, by decide⟩⟩
  · refine ⟨fun h => cfgOk_out 11 (by decide) h, fun g1 g2 => ⟨12, rfl, ⟨by omega, by omega, cfg_next (k := 11) hn ⟨g1, g2⟩⟩, by decide⟩⟩
  · refine ⟨fun h => cfgOk_out 12 (by decide) h, fun g1 g2 => ⟨13, rfl, ⟨by omega, by omega, cfg_next (k := 12) hn ⟨g1, g2⟩⟩, by decide⟩⟩
  · refine ⟨fun h => cfgOk_out 13 (by decide) h, fun g1 g2 => ⟨14, rfl, ⟨by omega, by omega, cfg_next (k := 13) hn ⟨g1, g2⟩⟩, by decide⟩⟩
  · refine ⟨fun h => cfgOk_out 14 (by decide) h, fun g1 g2 => ⟨15, rfl, ⟨by omega, by omega, cfg_next (k := 14) hn ⟨g1, g2⟩⟩, by decide⟩⟩
  · refine ⟨fun h => cfgOk_out 15 (by decide) h, fun g1 g2 => ⟨16, rfl, ⟨by omega, by omega, cfg_next (k := 15) hn ⟨g1, g2⟩⟩, by decide⟩⟩
  · exact cfgOk_in (fun i hi => hn i (by omega))
def tb_specRight : List Blk → List AV → Option (List Blk × AV × Prop)
  | [], [.agg [.str nm, .str au, .int .i64 n0, .int .i64 n1, .int .i64 n2, .int .i64 n3, .int .i64 n4, .int .i64 n5, .int .i64 n6, .int .i64 n7, .int .i64 n8, .int .i64 n9, .int .i64 n10, .int .i64 n11, .int .i64 n12, .int .i64 n13, .int .i64 n14, .int .i64 n15]] => some ([], .int .i64 (cfgErr nm au (cfgL n0 n1 n2 n3 n4 n5 n6 n7 n8 n9 n10 n11 n12 n13 n14 n15)), (nm.length ≤ 1000000) ∧ (au.length ≤ 1000000))
  | _, _ => none
theorem tb_specRight_ok : ∀ E args E' res p, tb_specRight E args = some (E', res, p) → p → SpecE Tryd.prog 37 E args E' res := by
  intro E args E' res p h hp
  unfold tb_specRight at h
  split at h
  · simp only [Option.some.injEq, Prod.mk.injEq] at h
    obtain ⟨rfl, rfl, rfl⟩ := h
    exact (specRight _ _ _ _ _ _ _ _ _ _ _ _ _ _ _ _ _ _ hp.1 hp.2)
  · cases h

def T_specUsual : Tbl := fun g E args => nilT g E args
theorem T_specUsual_ok : TblOK Tryd.prog T_specUsual := nilT_ok
set_option maxRecDepth 100000 in
set_option maxHeartbeats 4000000 in
theorem specUsual : SpecE Tryd.prog 24 [] [] [] (.agg [.str [97, 98, 117, 116, 109, 101, 110, 116], .str [], .int .i64 1, .int .i64 0, .int .i64 1, .int .i64 1, .int .i64 1024, .int .i64 4096, .int .i64 10, .int .i64 0, .int .i64 8, .int .i64 8, .int .i64 0, .int .i64 8192, .int .i64 100, .int .i64 256, .int .i64 65536, .int .i64 0]) := by
  refine specF0 (C := T_specUsual) (wr := false) (D := fun i => if i = 1 then [2] else []) (U := fun _ => none) (res := [.agg [.str [97, 98, 117, 116, 109, 101, 110, 116], .str [], .int .i64 1, .int .i64 0, .int .i64 1, .int .i64 1, .int .i64 1024, .int .i64 4096, .int .i64 10, .int .i64 0, .int .i64 8, .int .i64 8, .int .i64 0, .int .i64 8192, .int .i64 100, .int .i64 256, .int .i64 65536, .int .i64 0]]) Tryd.Ty.mixed T_specUsual_ok Tryd.func24 (nA := 0) (by decide +kernel) rfl (fun _ => rfl) ?_
  simp only [Tryd.f24, bodyOf, rlOf]
  rw [W_V]
  simp (config := {maxSteps := 2000000}) only [T_specUsual, go_sem, seval]
  (try simp (config := {maxSteps := 2000000}) only [gimp, impB, isT, go_sem, seval])
def tb_specUsual : List Blk → List AV → Option (List Blk × AV × Prop)
  | [], [] => some ([], .agg [.str [97, 98, 117, 116, 109, 101, 110, 116], .str [], .int .i64 1, .int .i64 0, .int .i64 1, .int .i64 1, .int .i64 1024, .int .i64 4096, .int .i64 10, .int .i64 0, .int .i64 8, .int .i64 8, .int .i64 0, .int .i64 8192, .int .i64 100, .int .i64 256, .int .i64 65536, .int .i64 0], True)
  | _, _ => none
theorem tb_specUsual_ok : ∀ E args E' res p, tb_specUsual E args = some (E', res, p) → p → SpecE Tryd.prog 24 E args E' res := by
  intro E args E' res p h hp
  unfold tb_specUsual at h
  split at h
  · simp only [Option.some.injEq, Prod.mk.injEq] at h
    obtain ⟨rfl, rfl, rfl⟩ := h
    exact specUsual
  · cases h

def T_specPrint : Tbl := fun g E args => (addT (addT (addT (addT nilT 37 Go.Proofs.Tryd.Cfg.tb_specRight) 18 Go.Proofs.Tryd.Cfg.tb_specBounds) 38 Go.Proofs.Tryd.Dig.tb_specText) 39 Go.Proofs.Tryd.Lib.tb_specJoin) g E args
theorem T_specPrint_ok : TblOK Tryd.prog T_specPrint := (addT_ok (addT_ok (addT_ok (addT_ok nilT_ok (by decide +kernel) Go.Proofs.Tryd.Cfg.tb_specRight_ok) (by decide +kernel) Go.Proofs.Tryd.Cfg.tb_specBounds_ok) (by decide +kernel) Go.Proofs.Tryd.Dig.tb_specText_ok) (by decide +kernel) Go.Proofs.Tryd.Lib.tb_specJoin_ok)
set_option maxRecDepth 100000 in
set_option maxHeartbeats 4000000 in
theorem specPrint (nm au : List UInt8) (n0 n1 n2 n3 n4 n5 n6 n7 n8 n9 n10 n11 n12 n13 n14 n15 : Int) (hn : nm.length ≤ 1000000) (ha : au.length ≤ 1000000) : SpecE Tryd.prog 20 [] [.agg [.str nm, .str au, .int .i64 n0, .int .i64 n1, .int .i64 n2, .int .i64 n3, .int .i64 n4, .int .i64 n5, .int .i64 n6, .int .i64 n7, .int .i64 n8, .int .i64 n9, .int .i64 n10, .int .i64 n11, .int .i64 n12, .int .i64 n13, .int .i64 n14, .int .i64 n15]] [] (.str (cfgText nm au (cfgL n0 n1 n2 n3 n4 n5 n6 n7 n8 n9 n10 n11 n12 n13 n14 n15))) := by
  refine specF0 (C := T_specPrint) (wr := false) (D := fun _ => []) (U := fun i => if i = 6 then some ⟨Unit, fun _ => ⟨[(1, .ptr 32 0 0 1), (3, .ref 224 0 2 2)], [(32, .cells 18 false cfz [.agg [.str nm, .str au, .int .i64 n0, .int .i64 n1, .int .i64 n2, .int .i64 n3, .int .i64 n4, .int .i64 n5, .int .i64 n6, .int .i64 n7, .int .i64 n8, .int .i64 n9, .int .i64 n10, .int .i64 n11, .int .i64 n12, .int .i64 n13, .int .i64 n14, .int .i64 n15]]), (224, .cells 1 false (.str []) [.str nm, .str (cfgAu au)])]⟩, fun _ => cfgErr nm au (cfgL n0 n1 n2 n3 n4 n5 n6 n7 n8 n9 n10 n11 n12 n13 n14 n15) = 0⟩ else none) (res := [.str (cfgText nm au (cfgL n0 n1 n2 n3 n4 n5 n6 n7 n8 n9 n10 n11 n12 n13 n14 n15))]) Tryd.Ty.mixed T_specPrint_ok Tryd.func20 (nA := 1) (by decide +kernel) rfl (fun _ => rfl) ?_
  simp only [Tryd.f20, bodyOf, rlOf]
  rw [W_V]
  simp (config := {maxSteps := 2000000}) only [T_specPrint, Go.Proofs.Tryd.Cfg.tb_specRight, Go.Proofs.Tryd.Cfg.tb_specBounds, Go.Proofs.Tryd.Dig.tb_specText, Go.Proofs.Tryd.Lib.tb_specJoin, go_sem, seval, cfz]
  (try simp (config := {maxSteps := 2000000}) only [gimp, impB, isT, go_sem, seval])
  refine ⟨⟨hn, ha⟩, fun h => by rw [cfgText, if_neg h], fun h => ⟨⟨fun e => ⟨(), by simp [cfgAu, e], h⟩, fun e => ⟨(), by simp [cfgAu, e], h⟩⟩, fun h => ?_⟩⟩
  obtain ⟨q1, q2, q3⟩ := cfgErr_ok h
  refine VL_inv (X := Int) (fun k => ⟨[(1, .ptr 32 0 0 1), (3, .ref 224 0 (cfgW nm au (cfgL n0 n1 n2 n3 n4 n5 n6 n7 n8 n9 n10 n11 n12 n13 n14 n15) k.toNat).length (cfgW nm au (cfgL n0 n1 n2 n3 n4 n5 n6 n7 n8 n9 n10 n11 n12 n13 n14 n15) k.toNat).length), (19, .agg [.ptr 32 0 2 1, .int .i64 0, .int .i64 1, .ptr 32 0 3 1, .int .i64 0, .int .i64 1, .ptr 32 0 4 1, .int .i64 0, .int .i64 1, .ptr 32 0 5 1, .int .i64 0, .int .i64 1, .ptr 32 0 6 1, .int .i64 1, .int .i64 65536, .ptr 32 0 7 1, .int .i64 1, .int .i64 65536, .ptr 32 0 8 1, .int .i64 0, .int .i64 100, .ptr 32 0 9 1, .int .i64 0, .int .i64 1073741824, .ptr 32 0 10 1, .int .i64 1, .int .i64 16, .ptr 32 0 11 1, .int .i64 1, .int .i64 16, .ptr 32 0 12 1, .int .i64 0, .int .i64 1, .ptr 32 0 13 1, .int .i64 16, .int .i64 65536, .ptr 32 0 14 1, .int .i64 1, .int .i64 1000, .ptr 32 0 15 1, .int .i64 3, .int .i64 4096, .ptr 32 0 16 1, .int .i64 0, .int .i64 1048576, .ptr 32 0 17 1, .int .i64 0, .int .i64 1]), (20, .int .i64 k)], [(32, .cells 18 false cfz [.agg [.str nm, .str au, .int .i64 n0, .int .i64 n1, .int .i64 n2, .int .i64 n3, .int .i64 n4, .int .i64 n5, .int .i64 n6, .int .i64 n7, .int .i64 n8, .int .i64 n9, .int .i64 n10, .int .i64 n11, .int .i64 n12, .int .i64 n13, .int .i64 n14, .int .i64 n15]]), (224, .cells 1 false (.str []) ((cfgW nm au (cfgL n0 n1 n2 n3 n4 n5 n6 n7 n8 n9 n10 n11 n12 n13 n14 n15) k.toNat).map .str))]⟩) (fun k => 0 ≤ k ∧ k ≤ 16) (fun k => (16 - k).toNat) 0 ?_ ?_ ?_
  · simp only [cfgW_zero, T_specPrint, Go.Proofs.Tryd.Cfg.tb_specRight, Go.Proofs.Tryd.Cfg.tb_specBounds, Go.Proofs.Tryd.Dig.tb_specText, Go.Proofs.Tryd.Lib.tb_specJoin, go_sem, seval, cfz]
    try rfl
  · exact ⟨by decide, by decide⟩
  rintro k ⟨hk0, hk⟩
  have hc : k = 0 ∨ k = 1 ∨ k = 2 ∨ k = 3 ∨ k = 4 ∨ k = 5 ∨ k = 6 ∨ k = 7 ∨ k = 8 ∨ k = 9 ∨ k = 10 ∨ k = 11 ∨ k = 12 ∨ k = 13 ∨ k = 14 ∨ k = 15 ∨ k = 16 := by omega
  rcases hc with rfl | rfl | rfl | rfl | rfl | rfl | rfl | rfl | rfl | rfl | rfl | rfl | rfl | rfl | rfl | rfl | rfl
  all_goals simp (config := {maxSteps := 2000000}) only [T_specPrint, Go.Proofs.Tryd.Cfg.tb_specRight, Go.Proofs.Tryd.Cfg.tb_specBounds, Go.Proofs.Tryd.Dig.tb_specText, Go.Proofs.Tryd.Lib.tb_specJoin, go_sem, seval, cfz]
  all_goals (try simp (config := {maxSteps := 2000000}) only [gimp, impB, isT, go_sem, seval])
  · obtain ⟨w1, w2, w3⟩ := cfgW_step nm au (cfgL_len n0 n1 n2 n3 n4 n5 n6 n7 n8 n9 n10 n11 n12 n13 n14 n15) 0 (by decide)
    exact ⟨cfg_range q3 0 (by decide), w1, 1, ⟨⟨w2, rfl⟩, w3⟩, ⟨by decide, by decide⟩, by decide⟩
  · obtain ⟨w1, w2, w3⟩ := cfgW_step nm au (cfgL_len n0 n1 n2 n3 n4 n5 n6 n7 n8 n9 n10 n11 n12 n13 n14 n15) 1 (by decide)
    exact ⟨cfg_range q3 1 (by decide), w1, 2, ⟨⟨w2, rfl⟩, w3⟩, ⟨by decide, by decide⟩, by decide⟩
  · obtain ⟨w1, w2, w3⟩ := cfgW_step nm au (cfgL_len n0 n1 n2 n3 n4 n5 n6 n7 n8 n9 n10 n11 n12 n13 n14 n15) 2 (by decide)
    exact ⟨cfg_range q3 2 (by decide), w1, 3, ⟨⟨w2, rfl⟩, w3⟩, ⟨by decide, by decide⟩, by decide⟩
  · obtain ⟨w1, w2, w3⟩ := cfgW_step nm au (cfgL_len n0 n1 n2 n3 n4 n5 n6 n7 n8 n9 n10 n11 n12 n13 n14 n15) 3 (by decide)
    exact ⟨cfg_range q3 3 (by decide), w1, 4, ⟨⟨w2, rfl⟩, w3⟩, ⟨by decide, by decide⟩, by decide⟩
  · obtain ⟨w1, w2, w3⟩ := cfgW_step nm au (cfgL_len n0 n1 n2 n3 n4 n5 n6 n7 n8 n9 n10 n11 n12 n13 n14 n15) 4 (by decide)
    exact ⟨cfg_range q3 4 (by decide), w1, 5, ⟨⟨w2, rfl⟩, w3⟩, ⟨by decide, by decide⟩, by decide⟩
  · obtain ⟨w1, w2, w3⟩ := cfgW_step nm au (cfgL_len n0 n1 n2 n3 n4 n5 n6 n7 n8 n9 n10 n11 n12 n13 n14 n15) 5 (by decide)
    exact ⟨cfg_range q3 5 (by decide), w1, 6, ⟨⟨w2, rfl⟩, w3⟩, ⟨by decide, by decide⟩, by decide⟩
  · obtain ⟨w1, w2, w3⟩ := cfgW_step nm au (cfgL_len n0 n1 n2 n3 n4 n5 n6 n7 n8 n9 n10 n11 n12 n13 n14 n15) 6 (by decide)
    exact ⟨cfg_range q3 6 (by decide), w1, 7, ⟨⟨w2, rfl⟩, w3⟩, ⟨by decide, by decide⟩, by decide⟩
  · obtain ⟨w1, w2, w3⟩ := cfgW_step nm au (cfgL_len n0 n1 n2 n3 n4 n5 n6 n7 n8 n9 n10 n11 n12 n13 n14 n15) 7 (by decide)
    exact ⟨cfg_range q3 7 (by decide), w1, 8, ⟨⟨w2, rfl⟩, w3⟩, ⟨by decide, by decide⟩, by decide⟩
  · obtain ⟨w1, w2, w3⟩ := cfgW_step nm au (cfgL_len n0 n1 n2 n3 n4 n5 n6 n7 n8 n9 n10 n11 n12 n13 n14 n15) 8 (by decide)
    exact ⟨cfg_range q3 8 (by decide), w1, 9, ⟨⟨w2, rfl⟩, w3⟩, ⟨by decide, by decide⟩, by decide⟩
  · obtain ⟨w1, w2, w3⟩ := cfgW_step nm au (cfgL_len n0 n1 n2 n3 n4 n5 n6 n7 n8 n9 n10 n11 n12 n13 n14 n15) 9 (by decide)
    exact ⟨cfg_range q3 9 (by decide), w1, 10, ⟨⟨w2, rfl⟩, w3⟩, ⟨by decide, by decide⟩, by decide⟩
  · obtain ⟨w1, w2, w3⟩ := cfgW_step nm au (cfgL_len n0 n1 n2 n3 n4 n5 n6 n7 n8 n9 n10 n11 n12 n13 n14 n15) 10 (by decide)
    exact ⟨cfg_range q3 10 (by decide), w1, 11, ⟨⟨w2, rfl⟩, w3⟩, ⟨by decide, by decide⟩, by decide⟩
  · obtain ⟨w1, w2, w3⟩ := cfgW_step nm au (cfgL_len n0 n1 n2 n3 n4 n5 n6 n7 n8 n9 n10 n11 n12 n13 n14 n15) 11 (by decide)
    exact ⟨cfg_range q3 11 (by decide), w1, 12, ⟨⟨w2, rfl⟩, w3⟩, ⟨by decide, by decide⟩, by decide⟩
  · obtain ⟨w1, w2, w3⟩ := cfgW_step nm au (cfgL_len n0 n1 n2 n3 n4 n5 n6 n7 n8 n9 n10 n11 n12 n13 n14 n15) 12 (by decide)
    exact ⟨cfg_range q3 12 (by decide), w1, 13, ⟨⟨w2, rfl⟩, w3⟩, ⟨by decide, by decide⟩, by decide⟩
  · obtain ⟨w1, w2, w3⟩ := cfgW_step nm au (cfgL_len n0 n1 n2 n3 n4 n5 n6 n7 n8 n9 n10 n11 n12 n13 n14 n15) 13 (by decide)
    exact ⟨cfg_range q3 13 (by decide), w1, 14, ⟨⟨w2, rfl⟩, w3⟩, ⟨by decide, by decide⟩, by decide⟩
  · obtain ⟨w1, w2, w3⟩ := cfgW_step nm au (cfgL_len n0 n1 n2 n3 n4 n5 n6 n7 n8 n9 n10 n11 n12 n13 n14 n15) 14 (by decide)
    exact ⟨cfg_range q3 14 (by decide), w1, 15, ⟨⟨w2, rfl⟩, w3⟩, ⟨by decide, by decide⟩, by decide⟩
  · obtain ⟨w1, w2, w3⟩ := cfgW_step nm au (cfgL_len n0 n1 n2 n3 n4 n5 n6 n7 n8 n9 n10 n11 n12 n13 n14 n15) 15 (by decide)
    exact ⟨cfg_range q3 15 (by decide), w1, 16, ⟨⟨w2, rfl⟩, w3⟩, ⟨by decide, by decide⟩, by decide⟩
  · have w := cfgW_len nm au (cfgL n0 n1 n2 n3 n4 n5 n6 n7 n8 n9 n10 n11 n12 n13 n14 n15) 16 (Nat.le_refl 16)
    have w2 := cfgW_all nm au (cfgL n0 n1 n2 n3 n4 n5 n6 n7 n8 n9 n10 n11 n12 n13 n14 n15)
    rw [cfgL_len] at w2
    have w3 := flat_text_len (cfgL n0 n1 n2 n3 n4 n5 n6 n7 n8 n9 n10 n11 n12 n13 n14 n15)
    rw [cfgL_len] at w3
    have w4 := cfgAu_len au
    rw [List.take_length, w2, w]
    refine ⟨⟨by decide, ?_⟩, by rw [cfgText, if_pos h]⟩
    rw [List.length_append, List.length_append, List.length_cons]
    omega
def tb_specPrint : List Blk → List AV → Option (List Blk × AV × Prop)
  | [], [.agg [.str nm, .str au, .int .i64 n0, .int .i64 n1, .int .i64 n2, .int .i64 n3, .int .i64 n4, .int .i64 n5, .int .i64 n6, .int .i64 n7, .int .i64 n8, .int .i64 n9, .int .i64 n10, .int .i64 n11, .int .i64 n12, .int .i64 n13, .int .i64 n14, .int .i64 n15]] => some ([], .str (cfgText nm au (cfgL n0 n1 n2 n3 n4 n5 n6 n7 n8 n9 n10 n11 n12 n13 n14 n15)), (nm.length ≤ 1000000) ∧ (au.length ≤ 1000000))
  | _, _ => none
theorem tb_specPrint_ok : ∀ E args E' res p, tb_specPrint E args = some (E', res, p) → p → SpecE Tryd.prog 20 E args E' res := by
  intro E args E' res p h hp
  unfold tb_specPrint at h
  split at h
  · simp only [Option.some.injEq, Prod.mk.injEq] at h
    obtain ⟨rfl, rfl, rfl⟩ := h
    exact (specPrint _ _ _ _ _ _ _ _ _ _ _ _ _ _ _ _ _ _ hp.1 hp.2)
  · cases h

def T_specNumbers : Tbl := fun g E args => nilT g E args
theorem T_specNumbers_ok : TblOK Tryd.prog T_specNumbers := nilT_ok
set_option maxRecDepth 100000 in
set_option maxHeartbeats 4000000 in
theorem specNumbers (nm au : List UInt8) (n0 n1 n2 n3 n4 n5 n6 n7 n8 n9 n10 n11 n12 n13 n14 n15 : Int) : SpecE Tryd.prog 42 [] [.agg [.str nm, .str au, .int .i64 n0, .int .i64 n1, .int .i64 n2, .int .i64 n3, .int .i64 n4, .int .i64 n5, .int .i64 n6, .int .i64 n7, .int .i64 n8, .int .i64 n9, .int .i64 n10, .int .i64 n11, .int .i64 n12, .int .i64 n13, .int .i64 n14, .int .i64 n15]] [] (enc_ints (cfgL n0 n1 n2 n3 n4 n5 n6 n7 n8 n9 n10 n11 n12 n13 n14 n15)) := by
  refine specF0 (C := T_specNumbers) (wr := false) (D := fun _ => []) (U := fun _ => none) (res := [enc_ints (cfgL n0 n1 n2 n3 n4 n5 n6 n7 n8 n9 n10 n11 n12 n13 n14 n15)]) Tryd.Ty.mixed T_specNumbers_ok Tryd.func42 (nA := 1) (by decide +kernel) rfl (fun _ => rfl) ?_
  simp only [Tryd.f42, bodyOf, rlOf]
  rw [W_V]
  simp (config := {maxSteps := 2000000}) only [T_specNumbers, go_sem, seval, cfgL]
  (try simp (config := {maxSteps := 2000000}) only [gimp, impB, isT, go_sem, seval])
def tb_specNumbers : List Blk → List AV → Option (List Blk × AV × Prop)
  | [], [.agg [.str nm, .str au, .int .i64 n0, .int .i64 n1, .int .i64 n2, .int .i64 n3, .int .i64 n4, .int .i64 n5, .int .i64 n6, .int .i64 n7, .int .i64 n8, .int .i64 n9, .int .i64 n10, .int .i64 n11, .int .i64 n12, .int .i64 n13, .int .i64 n14, .int .i64 n15]] => some ([], enc_ints (cfgL n0 n1 n2 n3 n4 n5 n6 n7 n8 n9 n10 n11 n12 n13 n14 n15), True)
  | _, _ => none
theorem tb_specNumbers_ok : ∀ E args E' res p, tb_specNumbers E args = some (E', res, p) → p → SpecE Tryd.prog 42 E args E' res := by
  intro E args E' res p h hp
  unfold tb_specNumbers at h
  split at h
  · simp only [Option.some.injEq, Prod.mk.injEq] at h
    obtain ⟨rfl, rfl, rfl⟩ := h
    exact (specNumbers _ _ _ _ _ _ _ _ _ _ _ _ _ _ _ _ _ _)
  · cases h

def T_specLeast : Tbl := fun g E args => nilT g E args
theorem T_specLeast_ok : TblOK Tryd.prog T_specLeast := nilT_ok
set_option maxRecDepth 100000 in
set_option maxHeartbeats 4000000 in
theorem specLeast : SpecE Tryd.prog 66 [] [] [] (enc_ints cfgLo) := by
  refine specF0 (C := T_specLeast) (wr := false) (D := fun _ => []) (U := fun _ => none) (res := [enc_ints cfgLo]) Tryd.Ty.mixed T_specLeast_ok Tryd.func66 (nA := 0) (by decide +kernel) rfl (fun _ => rfl) ?_
  simp only [Tryd.f66, bodyOf, rlOf]
  rw [W_V]
  simp (config := {maxSteps := 2000000}) only [T_specLeast, go_sem, seval, cfgLo]
  (try simp (config := {maxSteps := 2000000}) only [gimp, impB, isT, go_sem, seval])
def tb_specLeast : List Blk → List AV → Option (List Blk × AV × Prop)
  | [], [] => some ([], enc_ints cfgLo, True)
  | _, _ => none
theorem tb_specLeast_ok : ∀ E args E' res p, tb_specLeast E args = some (E', res, p) → p → SpecE Tryd.prog 66 E args E' res := by
  intro E args E' res p h hp
  unfold tb_specLeast at h
  split at h
  · simp only [Option.some.injEq, Prod.mk.injEq] at h
    obtain ⟨rfl, rfl, rfl⟩ := h
    exact specLeast
  · cases h

def T_specMost : Tbl := fun g E args => nilT g E args
theorem T_specMost_ok : TblOK Tryd.prog T_specMost := nilT_ok
set_option maxRecDepth 100000 in
set_option maxHeartbeats 4000000 in
theorem specMost : SpecE Tryd.prog 67 [] [] [] (enc_ints cfgHi) := by
  refine specF0 (C := T_specMost) (wr := false) (D := fun _ => []) (U := fun _ => none) (res := [enc_ints cfgHi]) Tryd.Ty.mixed T_specMost_ok Tryd.func67 (nA := 0) (by decide +kernel) rfl (fun _ => rfl) ?_
  simp only [Tryd.f67, bodyOf, rlOf]
  rw [W_V]
  simp (config := {maxSteps := 2000000}) only [T_specMost, go_sem, seval, cfgHi]
  (try simp (config := {maxSteps := 2000000}) only [gimp, impB, isT, go_sem, seval])
def tb_specMost : List Blk → List AV → Option (List Blk × AV × Prop)
  | [], [] => some ([], enc_ints cfgHi, True)
  | _, _ => none
theorem tb_specMost_ok : ∀ E args E' res p, tb_specMost E args = some (E', res, p) → p → SpecE Tryd.prog 67 E args E' res := by
  intro E args E' res p h hp
  unfold tb_specMost at h
  split at h
  · simp only [Option.some.injEq, Prod.mk.injEq] at h
    obtain ⟨rfl, rfl, rfl⟩ := h
    exact specMost
  · cases h

def T_specRightR : Tbl := fun g E args => (addT (addT (addT (addT (addT nilT 65 Go.Proofs.Tryd.Host.tb_specKeyR) 64 Go.Proofs.Tryd.Oct.tb_specTokenR) 42 Go.Proofs.Tryd.Cfg.tb_specNumbers) 66 Go.Proofs.Tryd.Cfg.tb_specLeast) 67 Go.Proofs.Tryd.Cfg.tb_specMost) g E args
theorem T_specRightR_ok : TblOK Tryd.prog T_specRightR := (addT_ok (addT_ok (addT_ok (addT_ok (addT_ok nilT_ok (by decide +kernel) Go.Proofs.Tryd.Host.tb_specKeyR_ok) (by decide +kernel) Go.Proofs.Tryd.Oct.tb_specTokenR_ok) (by decide +kernel) Go.Proofs.Tryd.Cfg.tb_specNumbers_ok) (by decide +kernel) Go.Proofs.Tryd.Cfg.tb_specLeast_ok) (by decide +kernel) Go.Proofs.Tryd.Cfg.tb_specMost_ok)
set_option maxRecDepth 100000 in
set_option maxHeartbeats 4000000 in
theorem specRightR (nm au : List UInt8) (n0 n1 n2 n3 n4 n5 n6 n7 n8 n9 n10 n11 n12 n13 n14 n15 : Int) (hn : nm.length ≤ 1000000) (ha : au.length ≤ 1000000) : SpecE Tryd.prog 41 [] [.agg [.str nm, .str au, .int .i64 n0, .int .i64 n1, .int .i64 n2, .int .i64 n3, .int .i64 n4, .int .i64 n5, .int .i64 n6, .int .i64 n7, .int .i64 n8, .int .i64 n9, .int .i64 n10, .int .i64 n11, .int .i64 n12, .int .i64 n13, .int .i64 n14, .int .i64 n15]] [] (.int .i64 (cfgErr nm au (cfgL n0 n1 n2 n3 n4 n5 n6 n7 n8 n9 n10 n11 n12 n13 n14 n15))) := by
  refine specF0 (C := T_specRightR) (wr := false) (D := fun _ => []) (U := fun _ => none) (res := [.int .i64 (cfgErr nm au (cfgL n0 n1 n2 n3 n4 n5 n6 n7 n8 n9 n10 n11 n12 n13 n14 n15))]) Tryd.Ty.mixed T_specRightR_ok Tryd.func41 (nA := 1) (by decide +kernel) rfl (fun _ => rfl) ?_
  simp only [Tryd.f41, bodyOf, rlOf]
  rw [W_V]
  simp (config := {maxSteps := 2000000}) only [T_specRightR, Go.Proofs.Tryd.Host.tb_specKeyR, Go.Proofs.Tryd.Oct.tb_specTokenR, Go.Proofs.Tryd.Cfg.tb_specNumbers, Go.Proofs.Tryd.Cfg.tb_specLeast, Go.Proofs.Tryd.Cfg.tb_specMost, go_sem, seval, cfgL_len, cfgLo_len, cfgHi_len]
  (try simp (config := {maxSteps := 2000000}) only [gimp, impB, isT, go_sem, seval])
  refine ⟨by omega, fun h => (cfgErr_name h).symm, fun h1 h2 => ⟨fun e => ⟨ha, fun h => ?_, fun g1 g2 g3 => ?_⟩, fun e => ?_⟩⟩
  · refine (cfgErr_host h1 h2 e ?_).symm
    rcases h with (h | h) | h
    · left; intro g
      rw [hostKey, if_neg (by simpa [hostKeyOk] using h)] at g
      exact e g.symm
    · exact .inl h
    · exact .inr h
  all_goals first
    | rw [cfgErr_num h1 h2 (by rw [decide_eq_true e]; rfl)]
    | rw [cfgErr_num h1 h2 (by rw [decide_eq_false e, decide_eq_true g2, decide_eq_false (Int.not_lt.2 g3)]; rfl)]
  all_goals clear h1 h2
  all_goals refine VL_inv (X := Nat) (fun k => ⟨[(5, enc_ints (cfgL n0 n1 n2 n3 n4 n5 n6 n7 n8 n9 n10 n11 n12 n13 n14 n15)), (6, enc_ints cfgLo), (7, enc_ints cfgHi), (8, .int .i64 k)], []⟩) (fun k => k ≤ 16 ∧ ∀ i : Nat, (i : Int) < (k : Int) → cfgLo.getD i 0 ≤ (cfgL n0 n1 n2 n3 n4 n5 n6 n7 n8 n9 n10 n11 n12 n13 n14 n15).getD i 0 ∧ (cfgL n0 n1 n2 n3 n4 n5 n6 n7 n8 n9 n10 n11 n12 n13 n14 n15).getD i 0 ≤ cfgHi.getD i 0) (fun k => 16 - k) 0 ?_ ?_ ?_
  · simp only [T_specRightR, Go.Proofs.Tryd.Host.tb_specKeyR, Go.Proofs.Tryd.Oct.tb_specTokenR, Go.Proofs.Tryd.Cfg.tb_specNumbers, Go.Proofs.Tryd.Cfg.tb_specLeast, Go.Proofs.Tryd.Cfg.tb_specMost, go_sem, seval, cfgL_len, cfgLo_len, cfgHi_len]
    try rfl
  · exact ⟨by decide, fun i hi => by omega⟩
  rotate_left
  · simp only [T_specRightR, Go.Proofs.Tryd.Host.tb_specKeyR, Go.Proofs.Tryd.Oct.tb_specTokenR, Go.Proofs.Tryd.Cfg.tb_specNumbers, Go.Proofs.Tryd.Cfg.tb_specLeast, Go.Proofs.Tryd.Cfg.tb_specMost, go_sem, seval, cfgL_len, cfgLo_len, cfgHi_len]
    try rfl
  · exact ⟨by decide, fun i hi => by omega⟩
  all_goals rintro k ⟨hk, hn⟩
  all_goals simp (config := {maxSteps := 2000000}) only [T_specRightR, Go.Proofs.Tryd.Host.tb_specKeyR, Go.Proofs.Tryd.Oct.tb_specTokenR, Go.Proofs.Tryd.Cfg.tb_specNumbers, Go.Proofs.Tryd.Cfg.tb_specLeast, Go.Proofs.Tryd.Cfg.tb_specMost, go_sem, seval, cfgL_len, cfgLo_len, cfgHi_len]
  all_goals (try simp (config := {maxSteps := 2000000}) only [gimp, impB, isT, go_sem, seval])
  all_goals exact ⟨fun hlt => ⟨by omega, by omega, ⟨fun _ => by omega, fun _ => by omega⟩, ⟨fun _ => by omega, fun _ => by omega⟩, fun h => cfgOk_out k (by omega) h, fun g1 g2 => ⟨by omega, k + 1, by omega, ⟨by omega, cfg_next hn ⟨g1, g2⟩⟩, by omega⟩⟩, fun hge => cfgOk_in (fun i hi => hn i (by omega))⟩
def tb_specRightR : List Blk → List AV → Option (List Blk × AV × Prop)
  | [], [.agg [.str nm, .str au, .int .i64 n0, .int .i64 n1, .int .i64 n2, .int .i64 n3, .int .i64 n4, .int .i64 n5, .int .i64 n6, .int .i64 n7, .int .i64 n8, .int .i64 n9, .int .i64 n10, .int .i64 n11, .int .i64 n12, .int .i64 n13, .int .i64 n14, .int .i64 n15]] => some ([], .int .i64 (cfgErr nm au (cfgL n0 n1 n2 n3 n4 n5 n6 n7 n8 n9 n10 n11 n12 n13 n14 n15)), (nm.length ≤ 1000000) ∧ (au.length ≤ 1000000))
  | _, _ => none
theorem tb_specRightR_ok : ∀ E args E' res p, tb_specRightR E args = some (E', res, p) → p → SpecE Tryd.prog 41 E args E' res := by
  intro E args E' res p h hp
  unfold tb_specRightR at h
  split at h
  · simp only [Option.some.injEq, Prod.mk.injEq] at h
    obtain ⟨rfl, rfl, rfl⟩ := h
    exact (specRightR _ _ _ _ _ _ _ _ _ _ _ _ _ _ _ _ _ _ hp.1 hp.2)
  · cases h

def T_specPrintR : Tbl := fun g E args => (addT (addT (addT nilT 41 Go.Proofs.Tryd.Cfg.tb_specRightR) 42 Go.Proofs.Tryd.Cfg.tb_specNumbers) 43 Go.Proofs.Tryd.Dig.tb_specTextR) g E args
theorem T_specPrintR_ok : TblOK Tryd.prog T_specPrintR := (addT_ok (addT_ok (addT_ok nilT_ok (by decide +kernel) Go.Proofs.Tryd.Cfg.tb_specRightR_ok) (by decide +kernel) Go.Proofs.Tryd.Cfg.tb_specNumbers_ok) (by decide +kernel) Go.Proofs.Tryd.Dig.tb_specTextR_ok)
set_option maxRecDepth 100000 in
set_option maxHeartbeats 4000000 in
theorem specPrintR (nm au : List UInt8) (n0 n1 n2 n3 n4 n5 n6 n7 n8 n9 n10 n11 n12 n13 n14 n15 : Int) (hn : nm.length ≤ 1000000) (ha : au.length ≤ 1000000) : SpecE Tryd.prog 23 [] [.agg [.str nm, .str au, .int .i64 n0, .int .i64 n1, .int .i64 n2, .int .i64 n3, .int .i64 n4, .int .i64 n5, .int .i64 n6, .int .i64 n7, .int .i64 n8, .int .i64 n9, .int .i64 n10, .int .i64 n11, .int .i64 n12, .int .i64 n13, .int .i64 n14, .int .i64 n15]] [] (.str (cfgText nm au (cfgL n0 n1 n2 n3 n4 n5 n6 n7 n8 n9 n10 n11 n12 n13 n14 n15))) := by
  refine specF0 (C := T_specPrintR) (wr := false) (D := fun _ => []) (U := fun i => if i = 6 then some ⟨Unit, fun _ => ⟨[(1, .ptr 32 0 0 1), (3, .str (nm ++ 32 :: cfgAu au))], [(32, .cells 18 false (.agg [.str [], .str [], .int .i64 0, .int .i64 0, .int .i64 0, .int .i64 0, .int .i64 0, .int .i64 0, .int .i64 0, .int .i64 0, .int .i64 0, .int .i64 0, .int .i64 0, .int .i64 0, .int .i64 0, .int .i64 0, .int .i64 0, .int .i64 0]) [.agg [.str nm, .str au, .int .i64 n0, .int .i64 n1, .int .i64 n2, .int .i64 n3, .int .i64 n4, .int .i64 n5, .int .i64 n6, .int .i64 n7, .int .i64 n8, .int .i64 n9, .int .i64 n10, .int .i64 n11, .int .i64 n12, .int .i64 n13, .int .i64 n14, .int .i64 n15]])]⟩, fun _ => cfgErr nm au (cfgL n0 n1 n2 n3 n4 n5 n6 n7 n8 n9 n10 n11 n12 n13 n14 n15) = 0⟩ else none) (res := [.str (cfgText nm au (cfgL n0 n1 n2 n3 n4 n5 n6 n7 n8 n9 n10 n11 n12 n13 n14 n15))]) Tryd.Ty.mixed T_specPrintR_ok Tryd.func23 (nA := 1) (by decide +kernel) rfl (fun _ => rfl) ?_
  simp only [Tryd.f23, bodyOf, rlOf]
  rw [W_V]
  simp (config := {maxSteps := 2000000}) only [T_specPrintR, Go.Proofs.Tryd.Cfg.tb_specRightR, Go.Proofs.Tryd.Cfg.tb_specNumbers, Go.Proofs.Tryd.Dig.tb_specTextR, go_sem, seval, cfgL_len, cfgLo_len, cfgHi_len]
  (try simp (config := {maxSteps := 2000000}) only [gimp, impB, isT, go_sem, seval])
  refine ⟨⟨hn, ha⟩, fun h => by rw [cfgText, if_neg h], fun h => ?_⟩
  obtain ⟨q1, q2, q3⟩ := cfgErr_ok h
  have q4 := cfgAu_len au
  refine ⟨by omega, by rw [List.length_append]; simp only [List.length_cons, List.length_nil]; omega, ⟨fun e => ⟨by rw [List.length_append, List.length_cons]; omega, (), by simp [cfgAu, e], h⟩, fun e => ⟨(), by simp [cfgAu, e], h⟩⟩, fun _ => ?_⟩
  refine VL_inv (X := Nat) (fun k => ⟨[(3, .str (nm ++ 32 :: cfgAu au ++ ((cfgL n0 n1 n2 n3 n4 n5 n6 n7 n8 n9 n10 n11 n12 n13 n14 n15).take k).flatMap fun n => 32 :: textI n)), (4, enc_ints (cfgL n0 n1 n2 n3 n4 n5 n6 n7 n8 n9 n10 n11 n12 n13 n14 n15)), (5, .int .i64 k)], []⟩) (fun k => k ≤ 16) (fun k => 16 - k) 0 ?_ ?_ ?_
  · simp only [List.take_zero, List.flatMap_nil, List.append_nil, T_specPrintR, Go.Proofs.Tryd.Cfg.tb_specRightR, Go.Proofs.Tryd.Cfg.tb_specNumbers, Go.Proofs.Tryd.Dig.tb_specTextR, go_sem, seval, cfgL_len, cfgLo_len, cfgHi_len]
    try rfl
  · exact Nat.zero_le _
  rintro k hk
  simp (config := {maxSteps := 2000000}) only [T_specPrintR, Go.Proofs.Tryd.Cfg.tb_specRightR, Go.Proofs.Tryd.Cfg.tb_specNumbers, Go.Proofs.Tryd.Dig.tb_specTextR, go_sem, seval, cfgL_len, cfgLo_len, cfgHi_len]
  (try simp (config := {maxSteps := 2000000}) only [gimp, impB, isT, go_sem, seval])
  have w1 := flat_text_len ((cfgL n0 n1 n2 n3 n4 n5 n6 n7 n8 n9 n10 n11 n12 n13 n14 n15).take k)
  have w2 : ((cfgL n0 n1 n2 n3 n4 n5 n6 n7 n8 n9 n10 n11 n12 n13 n14 n15).take k).length ≤ 16 := by rw [List.length_take]; exact Nat.le_trans (Nat.min_le_left _ _) hk
  have w3 := textI_len ((cfgL n0 n1 n2 n3 n4 n5 n6 n7 n8 n9 n10 n11 n12 n13 n14 n15).getD k 0)
  have w4 := fun h : k < 16 => flat_snoc (cfgL n0 n1 n2 n3 n4 n5 n6 n7 n8 n9 n10 n11 n12 n13 n14 n15) k h
  have w5 := fun h : k < 16 => cfg_range q3 k h
  refine ⟨fun hlt => ⟨?_, by omega, w5 (by omega), ?_, by omega, k + 1, ⟨by rw [w4 (by omega)], by omega⟩, by omega, by omega⟩, fun hge => ?_⟩
  · rw [List.length_append, List.length_cons, List.length_append]; omega
  · rw [List.length_append, List.length_cons, List.length_append, List.length_append]; simp only [List.length_cons, List.length_nil]; omega
  · have : k = 16 := by omega
    subst this
    rw [List.take_of_length_le (Nat.le_refl 16), cfgText, if_pos h]
    simp
def tb_specPrintR : List Blk → List AV → Option (List Blk × AV × Prop)
  | [], [.agg [.str nm, .str au, .int .i64 n0, .int .i64 n1, .int .i64 n2, .int .i64 n3, .int .i64 n4, .int .i64 n5, .int .i64 n6, .int .i64 n7, .int .i64 n8, .int .i64 n9, .int .i64 n10, .int .i64 n11, .int .i64 n12, .int .i64 n13, .int .i64 n14, .int .i64 n15]] => some ([], .str (cfgText nm au (cfgL n0 n1 n2 n3 n4 n5 n6 n7 n8 n9 n10 n11 n12 n13 n14 n15)), (nm.length ≤ 1000000) ∧ (au.length ≤ 1000000))
  | _, _ => none
theorem tb_specPrintR_ok : ∀ E args E' res p, tb_specPrintR E args = some (E', res, p) → p → SpecE Tryd.prog 23 E args E' res := by
  intro E args E' res p h hp
  unfold tb_specPrintR at h
  split at h
  · simp only [Option.some.injEq, Prod.mk.injEq] at h
    obtain ⟨rfl, rfl, rfl⟩ := h
    exact (specPrintR _ _ _ _ _ _ _ _ _ _ _ _ _ _ _ _ _ _ hp.1 hp.2)
  · cases h

def T_specLives : Tbl := fun g E args => (addT (addT nilT 20 Go.Proofs.Tryd.Cfg.tb_specPrint) 24 Go.Proofs.Tryd.Cfg.tb_specUsual) g E args
theorem T_specLives_ok : TblOK Tryd.prog T_specLives := (addT_ok (addT_ok nilT_ok (by decide +kernel) Go.Proofs.Tryd.Cfg.tb_specPrint_ok) (by decide +kernel) Go.Proofs.Tryd.Cfg.tb_specUsual_ok)
set_option maxRecDepth 100000 in
set_option maxHeartbeats 4000000 in
theorem specLives : SpecE Tryd.prog 9 [] [] [] (.bool true) := by
  refine specF0 (C := T_specLives) (wr := false) (D := fun _ => []) (U := fun _ => none) (res := [.bool true]) Tryd.Ty.mixed T_specLives_ok Tryd.func9 (nA := 0) (by decide +kernel) rfl (fun _ => rfl) ?_
  simp only [Tryd.f9, bodyOf, rlOf]
  rw [W_V]
  simp (config := {maxSteps := 2000000}) only [T_specLives, Go.Proofs.Tryd.Cfg.tb_specPrint, Go.Proofs.Tryd.Cfg.tb_specUsual, go_sem, seval]
  (try simp (config := {maxSteps := 2000000}) only [gimp, impB, isT, go_sem, seval])
  decide +kernel
def tb_specLives : List Blk → List AV → Option (List Blk × AV × Prop)
  | [], [] => some ([], .bool true, True)
  | _, _ => none
theorem tb_specLives_ok : ∀ E args E' res p, tb_specLives E args = some (E', res, p) → p → SpecE Tryd.prog 9 E args E' res := by
  intro E args E' res p h hp
  unfold tb_specLives at h
  split at h
  · simp only [Option.some.injEq, Prod.mk.injEq] at h
    obtain ⟨rfl, rfl, rfl⟩ := h
    exact specLives
  · cases h

end Go.Proofs.Tryd.Cfg
