import Derived.Test.YtoegojolimaodaaGreatDoorShRE
section
set_option linter.unusedVariables false
set_option linter.unusedSimpArgs false
namespace Go.Proofs.Tryz.Bld
open Go Go.Abs Go.Proofs Go.Mdl
theorem specNoEsc (E : List Blk) (i a b c : Nat) : SpecE Tryz.prog 91 E [.ptr i a b c] E (.ptr i a b c) := by
  intro w ok φ vs hh hl hr
  obtain ⟨v0, rfl⟩ : ∃ v0, vs = [v0] := by
    match vs, hl with
    | [a], _ => exact ⟨a, rfl⟩
  have e0 := hr 0 _ _ rfl rfl
  refine ⟨.value v0, w, ?_, _, ok, φ, rfl, PostE.same hh e0⟩
  simp only [InvF, if_neg (show ¬ (91 : FuncId) = yldF by decide)]
  rw [run_callFunc_extern Tryz.func91 (by kernel_rfl) (by kernel_rfl) (by kernel_rfl) (e := Extern.AbiNoEscape.same) (by kernel_rfl), Go.Lib.run_noEscape]
  rfl
def tb_noEsc : List Blk → List AV → Option (List Blk × AV × Prop)
  | E, [.ptr i a b c] => some (E, .ptr i a b c, True)
  | _, _ => none
theorem tb_noEsc_ok : ∀ E args E' res q, tb_noEsc E args = some (E', res, q) → q → SpecE Tryz.prog 91 E args E' res := by
  intro E args E' res q h hq
  unfold tb_noEsc at h
  split at h
  · simp only [Option.some.injEq, Prod.mk.injEq] at h
    obtain ⟨rfl, rfl, rfl⟩ := h
    exact specNoEsc _ _ _ _ _
  · cases h
def T_specCheck0 : Tbl := fun g E args => (addT nilT 91 Go.Proofs.Tryz.Bld.tb_noEsc) g E args
theorem T_specCheck0_ok : TblOK Tryz.prog T_specCheck0 := (addT_ok nilT_ok (by decide +kernel) Go.Proofs.Tryz.Bld.tb_noEsc_ok)
set_option maxRecDepth 100000 in
set_option maxHeartbeats 4000000 in
theorem specCheck0 : SpecE Tryz.prog 70 [.cells 2 false (.iface 71 (.agg [.nilp, .nils])) [.agg [.nilp, .nils]]] [.ptr 0 0 0 1] [.cells 2 false (.iface 71 (.agg [.nilp, .nils])) [.agg [.ptr 0 0 0 1, .nils]]] (.tuple []) := by
  refine specFE (C := T_specCheck0) (wr := false) (D := fun _ => []) (U := fun _ => none) (E := [.cells 2 false (.iface 71 (.agg [.nilp, .nils])) [.agg [.nilp, .nils]]]) (E' := [.cells 2 false (.iface 71 (.agg [.nilp, .nils])) [.agg [.ptr 0 0 0 1, .nils]]]) (res := []) [] Tryz.Ty.mixed T_specCheck0_ok Tryz.func70 (args := [.ptr 0 0 0 1]) (nE := 1) (nA := 1) (by decide +kernel) rfl rfl ?_
  simp only [Tryz.f70, bodyOf, rlOf]
  rw [W_V]
  simp (config := {maxSteps := 2000000}) only [T_specCheck0, Go.Proofs.Tryz.Bld.tb_noEsc, go_sem, seval]
  (try simp (config := {maxSteps := 2000000}) only [gimp, impB, isT, go_sem, seval])
def tb_check : List Blk → List AV → Option (List Blk × AV × Prop)
  | [.cells 2 false d [.agg [.nilp, .nils]]], [.ptr 0 0 0 1] => some ([.cells 2 false d [.agg [.ptr 0 0 0 1, .nils]]], .tuple [], d = .iface 71 (.agg [.nilp, .nils]))
  | [.cells 2 false d [.agg [.ptr 0 0 0 1, .ref 1 0 n m]], .cells 1 false d2 c], [.ptr 0 0 0 1] => some ([.cells 2 false d [.agg [.ptr 0 0 0 1, .ref 1 0 n m]], .cells 1 false d2 c], .tuple [],
      d = .iface 71 (.agg [.nilp, .nils]) ∧ d2 = .iface 5 (.int .u8 0) ∧ (c.map toByte).map byteAV = c ∧ n = c.length ∧ m = c.length)
  | _, _ => none
def T_specCheck : Tbl := fun g E args => nilT g E args
theorem T_specCheck_ok : TblOK Tryz.prog T_specCheck := nilT_ok
set_option maxRecDepth 100000 in
set_option maxHeartbeats 4000000 in
theorem specCheck (s : List UInt8) : SpecE Tryz.prog 70 [.cells 2 false (.iface 71 (.agg [.nilp, .nils])) [.agg [.ptr 0 0 0 1, .ref 1 0 (s).length (s).length]], .cells 1 false (.iface 5 (.int .u8 0)) ((s).map byteAV)] [.ptr 0 0 0 1] [.cells 2 false (.iface 71 (.agg [.nilp, .nils])) [.agg [.ptr 0 0 0 1, .ref 1 0 (s).length (s).length]], .cells 1 false (.iface 5 (.int .u8 0)) ((s).map byteAV)] (.tuple []) := by
  refine specFE (C := T_specCheck) (wr := false) (D := fun _ => []) (U := fun _ => none) (E := [.cells 2 false (.iface 71 (.agg [.nilp, .nils])) [.agg [.ptr 0 0 0 1, .ref 1 0 (s).length (s).length]], .cells 1 false (.iface 5 (.int .u8 0)) ((s).map byteAV)]) (E' := [.cells 2 false (.iface 71 (.agg [.nilp, .nils])) [.agg [.ptr 0 0 0 1, .ref 1 0 (s).length (s).length]], .cells 1 false (.iface 5 (.int .u8 0)) ((s).map byteAV)]) (res := []) [] Tryz.Ty.mixed T_specCheck_ok Tryz.func70 (args := [.ptr 0 0 0 1]) (nE := 2) (nA := 1) (by decide +kernel) rfl rfl ?_
  simp only [Tryz.f70, bodyOf, rlOf]
  rw [W_V]
  simp (config := {maxSteps := 2000000}) only [T_specCheck, go_sem, seval]
  (try simp (config := {maxSteps := 2000000}) only [gimp, impB, isT, go_sem, seval])
theorem tb_check_ok : ∀ E args E' res q, tb_check E args = some (E', res, q) → q → SpecE Tryz.prog 70 E args E' res := by
  intro E args E' res q h hq
  unfold tb_check at h
  split at h
  · simp only [Option.some.injEq, Prod.mk.injEq] at h
    obtain ⟨rfl, rfl, rfl⟩ := h
    subst hq
    exact specCheck0
  · rename_i d n m d2 c
    simp only [Option.some.injEq, Prod.mk.injEq] at h
    obtain ⟨rfl, rfl, rfl⟩ := h
    obtain ⟨rfl, rfl, h1, rfl, rfl⟩ := hq
    have := specCheck (c.map toByte)
    rw [h1, List.length_map] at this
    exact this
  · cases h
def T_specWS0 : Tbl := fun g E args => (addT nilT 70 Go.Proofs.Tryz.Bld.tb_check) g E args
theorem T_specWS0_ok : TblOK Tryz.prog T_specWS0 := (addT_ok nilT_ok (by decide +kernel) Go.Proofs.Tryz.Bld.tb_check_ok)
set_option maxRecDepth 100000 in
set_option maxHeartbeats 4000000 in
theorem specWS0 (t : List UInt8) (ht : t.length ≤ 100000000) : SpecE Tryz.prog 36 [.cells 2 false (.iface 71 (.agg [.nilp, .nils])) [.agg [.nilp, .nils]]] [.ptr 0 0 0 1, .str t] [.cells 2 false (.iface 71 (.agg [.nilp, .nils])) [.agg [.ptr 0 0 0 1, .ref 1 0 (t).length (t).length]], .cells 1 false (.iface 5 (.int .u8 0)) ((t).map byteAV)] (.tuple [.int .i64 t.length, .nili]) := by
  refine specFE (C := T_specWS0) (wr := false) (D := fun _ => []) (U := fun _ => none) (E := [.cells 2 false (.iface 71 (.agg [.nilp, .nils])) [.agg [.nilp, .nils]]]) (E' := [.cells 2 false (.iface 71 (.agg [.nilp, .nils])) [.agg [.ptr 0 0 0 1, .ref 1 0 (t).length (t).length]], .cells 1 false (.iface 5 (.int .u8 0)) ((t).map byteAV)]) (res := [.int .i64 t.length, .nili]) [240] Tryz.Ty.mixed T_specWS0_ok Tryz.func36 (args := [.ptr 0 0 0 1, .str t]) (nE := 1) (nA := 2) (by decide +kernel) rfl rfl ?_
  simp only [Tryz.f36, bodyOf, rlOf]
  rw [W_V]
  simp (config := {maxSteps := 2000000}) only [T_specWS0, Go.Proofs.Tryz.Bld.tb_check, go_sem, seval]
  (try simp (config := {maxSteps := 2000000}) only [gimp, impB, isT, go_sem, seval])
  exact ⟨by omega, by omega⟩
def T_specWS : Tbl := fun g E args => (addT nilT 70 Go.Proofs.Tryz.Bld.tb_check) g E args
theorem T_specWS_ok : TblOK Tryz.prog T_specWS := (addT_ok nilT_ok (by decide +kernel) Go.Proofs.Tryz.Bld.tb_check_ok)
set_option maxRecDepth 100000 in
set_option maxHeartbeats 4000000 in
theorem specWS (s t : List UInt8) (hs : s.length ≤ 100000000) (ht : t.length ≤ 100000000) : SpecE Tryz.prog 36 [.cells 2 false (.iface 71 (.agg [.nilp, .nils])) [.agg [.ptr 0 0 0 1, .ref 1 0 (s).length (s).length]], .cells 1 false (.iface 5 (.int .u8 0)) ((s).map byteAV)] [.ptr 0 0 0 1, .str t] [.cells 2 false (.iface 71 (.agg [.nilp, .nils])) [.agg [.ptr 0 0 0 1, .ref 1 0 (s ++ t).length (s ++ t).length]], .cells 1 false (.iface 5 (.int .u8 0)) ((s ++ t).map byteAV)] (.tuple [.int .i64 t.length, .nili]) := by
  refine specFE (C := T_specWS) (wr := false) (D := fun _ => []) (U := fun _ => none) (E := [.cells 2 false (.iface 71 (.agg [.nilp, .nils])) [.agg [.ptr 0 0 0 1, .ref 1 0 (s).length (s).length]], .cells 1 false (.iface 5 (.int .u8 0)) ((s).map byteAV)]) (E' := [.cells 2 false (.iface 71 (.agg [.nilp, .nils])) [.agg [.ptr 0 0 0 1, .ref 1 0 (s ++ t).length (s ++ t).length]], .cells 1 false (.iface 5 (.int .u8 0)) ((s ++ t).map byteAV)]) (res := [.int .i64 t.length, .nili]) [] Tryz.Ty.mixed T_specWS_ok Tryz.func36 (args := [.ptr 0 0 0 1, .str t]) (nE := 2) (nA := 2) (by decide +kernel) rfl rfl ?_
  simp only [Tryz.f36, bodyOf, rlOf]
  rw [W_V]
  simp (config := {maxSteps := 2000000}) only [T_specWS, Go.Proofs.Tryz.Bld.tb_check, go_sem, seval]
  (try simp (config := {maxSteps := 2000000}) only [gimp, impB, isT, go_sem, seval])
  rw [List.length_append, List.map_append]
  exact ⟨⟨by omega, by omega⟩, ⟨rfl, rfl⟩, rfl, rfl⟩
def tb_ws : List Blk → List AV → Option (List Blk × AV × Prop)
  | [.cells 2 false d [.agg [.nilp, .nils]]], [.ptr 0 0 0 1, .str t] => some ([.cells 2 false d [.agg [.ptr 0 0 0 1, .ref 1 0 t.length t.length]], .cells 1 false (.iface 5 (.int .u8 0)) (t.map byteAV)], .tuple [.int .i64 t.length, .nili],
      d = .iface 71 (.agg [.nilp, .nils]) ∧ t.length ≤ 100000000)
  | [.cells 2 false d [.agg [.ptr 0 0 0 1, .ref 1 0 n m]], .cells 1 false d2 c], [.ptr 0 0 0 1, .str t] => some ([.cells 2 false d [.agg [.ptr 0 0 0 1, .ref 1 0 (c.map toByte ++ t).length (c.map toByte ++ t).length]], .cells 1 false d2 ((c.map toByte ++ t).map byteAV)], .tuple [.int .i64 t.length, .nili],
      d = .iface 71 (.agg [.nilp, .nils]) ∧ d2 = .iface 5 (.int .u8 0) ∧ (c.map toByte).map byteAV = c ∧ n = c.length ∧ m = c.length ∧ c.length ≤ 100000000 ∧ t.length ≤ 100000000)
  | _, _ => none
theorem tb_ws_ok : ∀ E args E' res q, tb_ws E args = some (E', res, q) → q → SpecE Tryz.prog 36 E args E' res := by
  intro E args E' res q h hq
  unfold tb_ws at h
  split at h
  · simp only [Option.some.injEq, Prod.mk.injEq] at h
    obtain ⟨rfl, rfl, rfl⟩ := h
    obtain ⟨rfl, h1⟩ := hq
    exact specWS0 _ h1
  · rename_i d n m d2 c t
    simp only [Option.some.injEq, Prod.mk.injEq] at h
    obtain ⟨rfl, rfl, rfl⟩ := h
    obtain ⟨rfl, rfl, h1, rfl, rfl, h2, h3⟩ := hq
    have := specWS (c.map toByte) t (by rw [List.length_map]; exact h2) h3
    rw [h1] at this
    simp only [List.length_map] at this
    exact this
  · cases h
def T_specAR : Tbl := fun g E args => nilT g E args
theorem T_specAR_ok : TblOK Tryz.prog T_specAR := nilT_ok
set_option maxRecDepth 100000 in
set_option maxHeartbeats 4000000 in
theorem specAR (s : List UInt8) (c : UInt8) (hs : s.length ≤ 100000000) (hc : c.toNat ≤ 127) : SpecE Tryz.prog 98 [.cells 1 false (.iface 5 (.int .u8 0)) ((s).map byteAV)] [.ref 0 0 s.length s.length, .int .i32 c.toNat] [.cells 1 false (.iface 5 (.int .u8 0)) ((s ++ [c]).map byteAV)] (.ref 0 0 (s.length + 1) (s.length + 1)) := by
  refine specFE (C := T_specAR) (wr := false) (D := fun _ => []) (U := fun _ => none) (E := [.cells 1 false (.iface 5 (.int .u8 0)) ((s).map byteAV)]) (E' := [.cells 1 false (.iface 5 (.int .u8 0)) ((s ++ [c]).map byteAV)]) (res := [.ref 0 0 (s.length + 1) (s.length + 1)]) [] Tryz.Ty.mixed T_specAR_ok Tryz.func98 (args := [.ref 0 0 s.length s.length, .int .i32 c.toNat]) (nE := 1) (nA := 2) (by decide +kernel) rfl rfl ?_
  simp only [Tryz.f98, bodyOf, rlOf]
  rw [W_V]
  simp (config := {maxSteps := 2000000}) only [T_specAR, go_sem, seval]
  (try simp (config := {maxSteps := 2000000}) only [gimp, impB, isT, go_sem, seval])
  rw [List.map_append]
  refine ⟨by omega, fun h => ⟨by omega, by omega, rfl, rfl⟩, fun h => by omega⟩
def tb_ar : List Blk → List AV → Option (List Blk × AV × Prop)
  | [.cells 1 false d2 l], [.ref 0 0 n m, .int .i32 r] => some ([.cells 1 false d2 ((l.map toByte ++ [UInt8.ofNat r.toNat]).map byteAV)], .ref 0 0 (l.map toByte ++ [UInt8.ofNat r.toNat]).length (l.map toByte ++ [UInt8.ofNat r.toNat]).length,
      d2 = .iface 5 (.int .u8 0) ∧ (l.map toByte).map byteAV = l ∧ n = l.length ∧ m = l.length ∧ l.length ≤ 100000000 ∧ 0 ≤ r ∧ r ≤ 127)
  | _, _ => none
theorem tb_ar_ok : ∀ E args E' res q, tb_ar E args = some (E', res, q) → q → SpecE Tryz.prog 98 E args E' res := by
  intro E args E' res q h hq
  unfold tb_ar at h
  split at h
  · rename_i d2 l n m r
    simp only [Option.some.injEq, Prod.mk.injEq] at h
    obtain ⟨rfl, rfl, rfl⟩ := h
    obtain ⟨rfl, h1, rfl, rfl, h2, h3, h4⟩ := hq
    have e : (((UInt8.ofNat r.toNat).toNat : Nat) : Int) = r := by
      rw [UInt8.toNat_ofNat']; omega
    have := specAR (l.map toByte) (UInt8.ofNat r.toNat) (by rw [List.length_map]; exact h2) (by omega)
    rw [h1, List.length_map, e] at this
    simp only [List.length_append, List.length_map, List.length_singleton]
    exact this
  · cases h
def T_specWR : Tbl := fun g E args => (addT (addT nilT 70 Go.Proofs.Tryz.Bld.tb_check) 98 Go.Proofs.Tryz.Bld.tb_ar) g E args
theorem T_specWR_ok : TblOK Tryz.prog T_specWR := (addT_ok (addT_ok nilT_ok (by decide +kernel) Go.Proofs.Tryz.Bld.tb_check_ok) (by decide +kernel) Go.Proofs.Tryz.Bld.tb_ar_ok)
set_option maxRecDepth 100000 in
set_option maxHeartbeats 4000000 in
theorem specWR (s : List UInt8) (c : UInt8) (hs : s.length ≤ 100000000) (hc : c.toNat ≤ 127) : SpecE Tryz.prog 82 [.cells 2 false (.iface 71 (.agg [.nilp, .nils])) [.agg [.ptr 0 0 0 1, .ref 1 0 (s).length (s).length]], .cells 1 false (.iface 5 (.int .u8 0)) ((s).map byteAV)] [.ptr 0 0 0 1, .int .i32 c.toNat] [.cells 2 false (.iface 71 (.agg [.nilp, .nils])) [.agg [.ptr 0 0 0 1, .ref 1 0 (s ++ [c]).length (s ++ [c]).length]], .cells 1 false (.iface 5 (.int .u8 0)) ((s ++ [c]).map byteAV)] (.tuple [.int .i64 1, .nili]) := by
  refine specFE (C := T_specWR) (wr := false) (D := fun _ => []) (U := fun _ => none) (E := [.cells 2 false (.iface 71 (.agg [.nilp, .nils])) [.agg [.ptr 0 0 0 1, .ref 1 0 (s).length (s).length]], .cells 1 false (.iface 5 (.int .u8 0)) ((s).map byteAV)]) (E' := [.cells 2 false (.iface 71 (.agg [.nilp, .nils])) [.agg [.ptr 0 0 0 1, .ref 1 0 (s ++ [c]).length (s ++ [c]).length]], .cells 1 false (.iface 5 (.int .u8 0)) ((s ++ [c]).map byteAV)]) (res := [.int .i64 1, .nili]) [] Tryz.Ty.mixed T_specWR_ok Tryz.func82 (args := [.ptr 0 0 0 1, .int .i32 c.toNat]) (nE := 2) (nA := 2) (by decide +kernel) rfl rfl ?_
  simp only [Tryz.f82, bodyOf, rlOf]
  rw [W_V]
  simp (config := {maxSteps := 2000000}) only [T_specWR, Go.Proofs.Tryz.Bld.tb_check, Go.Proofs.Tryz.Bld.tb_ar, go_sem, seval]
  (try simp (config := {maxSteps := 2000000}) only [gimp, impB, isT, go_sem, seval])
  simp only [List.length_append, List.length_singleton]
  exact ⟨⟨by omega, by omega, by omega⟩, by omega, by omega⟩
def T_specStr : Tbl := fun g E args => nilT g E args
theorem T_specStr_ok : TblOK Tryz.prog T_specStr := nilT_ok
set_option maxRecDepth 100000 in
set_option maxHeartbeats 4000000 in
theorem specStr (s : List UInt8) (hs : s.length ≤ 100000000) (h0 : s ≠ []) : SpecE Tryz.prog 38 [.cells 2 false (.iface 71 (.agg [.nilp, .nils])) [.agg [.ptr 0 0 0 1, .ref 1 0 (s).length (s).length]], .cells 1 false (.iface 5 (.int .u8 0)) ((s).map byteAV)] [.ptr 0 0 0 1] [.cells 2 false (.iface 71 (.agg [.nilp, .nils])) [.agg [.ptr 0 0 0 1, .ref 1 0 (s).length (s).length]], .cells 1 false (.nxt false 0 0) (s.map byteAV)] (.str s) := by
  refine specFE (C := T_specStr) (wr := false) (D := fun i => if i = 1 then [10] else []) (U := fun _ => none) (E := [.cells 2 false (.iface 71 (.agg [.nilp, .nils])) [.agg [.ptr 0 0 0 1, .ref 1 0 (s).length (s).length]], .cells 1 false (.iface 5 (.int .u8 0)) ((s).map byteAV)]) (E' := [.cells 2 false (.iface 71 (.agg [.nilp, .nils])) [.agg [.ptr 0 0 0 1, .ref 1 0 (s).length (s).length]], .cells 1 false (.nxt false 0 0) (s.map byteAV)]) (res := [.str s]) [] Tryz.Ty.mixed T_specStr_ok Tryz.func38 (args := [.ptr 0 0 0 1]) (nE := 2) (nA := 1) (by decide +kernel) rfl rfl ?_
  simp only [Tryz.f38, bodyOf, rlOf]
  rw [W_V]
  simp (config := {maxSteps := 2000000}) only [T_specStr, go_sem, seval]
  (try simp (config := {maxSteps := 2000000}) only [gimp, impB, isT, go_sem, seval])
  have h1 : 0 < s.length := List.length_pos_iff.2 h0
  exact ⟨h1, h1, by omega⟩
def tb_wr : List Blk → List AV → Option (List Blk × AV × Prop)
  | [.cells 2 false d [.agg [.ptr 0 0 0 1, .ref 1 0 n m]], .cells 1 false d2 l], [.ptr 0 0 0 1, .int .i32 r] => some ([.cells 2 false d [.agg [.ptr 0 0 0 1, .ref 1 0 (l.map toByte ++ [UInt8.ofNat r.toNat]).length (l.map toByte ++ [UInt8.ofNat r.toNat]).length]], .cells 1 false d2 ((l.map toByte ++ [UInt8.ofNat r.toNat]).map byteAV)], .tuple [.int .i64 1, .nili],
      d = .iface 71 (.agg [.nilp, .nils]) ∧ d2 = .iface 5 (.int .u8 0) ∧ (l.map toByte).map byteAV = l ∧ n = l.length ∧ m = l.length ∧ l.length ≤ 100000000 ∧ 0 ≤ r ∧ r ≤ 127)
  | _, _ => none
theorem tb_wr_ok : ∀ E args E' res q, tb_wr E args = some (E', res, q) → q → SpecE Tryz.prog 82 E args E' res := by
  intro E args E' res q h hq
  unfold tb_wr at h
  split at h
  · rename_i d n m d2 l r
    simp only [Option.some.injEq, Prod.mk.injEq] at h
    obtain ⟨rfl, rfl, rfl⟩ := h
    obtain ⟨rfl, rfl, h1, rfl, rfl, h2, h3, h4⟩ := hq
    have e : (((UInt8.ofNat r.toNat).toNat : Nat) : Int) = r := by
      rw [UInt8.toNat_ofNat']; omega
    have := specWR (l.map toByte) (UInt8.ofNat r.toNat) (by rw [List.length_map]; exact h2) (by omega)
    rw [h1, e] at this
    simp only [List.length_map] at this
    exact this
  · cases h
def tb_bstr : List Blk → List AV → Option (List Blk × AV × Prop)
  | [.cells 2 false d [.agg [.ptr 0 0 0 1, .ref 1 0 n m]], .cells 1 false d2 l], [.ptr 0 0 0 1] => some ([.cells 2 false d [.agg [.ptr 0 0 0 1, .ref 1 0 n m]], .cells 1 false (.nxt false 0 0) l], .str (l.map toByte),
      d = .iface 71 (.agg [.nilp, .nils]) ∧ d2 = .iface 5 (.int .u8 0) ∧ (l.map toByte).map byteAV = l ∧ n = l.length ∧ m = l.length ∧ l.length ≤ 100000000 ∧ 0 < l.length)
  | _, _ => none
theorem tb_bstr_ok : ∀ E args E' res q, tb_bstr E args = some (E', res, q) → q → SpecE Tryz.prog 38 E args E' res := by
  intro E args E' res q h hq
  unfold tb_bstr at h
  split at h
  · rename_i d n m d2 l
    simp only [Option.some.injEq, Prod.mk.injEq] at h
    obtain ⟨rfl, rfl, rfl⟩ := h
    obtain ⟨rfl, rfl, h1, rfl, rfl, h2, h3⟩ := hq
    have := specStr (l.map toByte) (by rw [List.length_map]; exact h2) (fun e => by have := congrArg List.length e; rw [List.length_map] at this; simp at this; subst this; simp at h3)
    rw [h1, List.length_map] at this
    exact this
  · cases h
end Go.Proofs.Tryz.Bld
end
