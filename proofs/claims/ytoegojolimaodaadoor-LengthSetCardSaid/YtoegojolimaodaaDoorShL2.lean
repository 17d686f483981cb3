/- The statement LengthSetCard: the law for every input, package-level variables as the program lays them. No condition beyond the statement's own. -/
import Derived.Test.YtoegojolimaodaaDoorShLF
import Derived.Test.YtoegojolimaodaaDoorRows
import Derived.Test.YtoegojolimaodaaDoorTie
import Derived.Test.YtoegojolimaodaaDoorCards
import Derived.LaidMore
import Derived.Lay
import Derived.SevenTiedAt
import Derived.Stop.Joined
import Derived.WalkKit
import Derived.ProofKit
import Derived.OpenShut
import Derived.ShutString
import Derived.ChangeOld
import Derived.Below
import Derived.SliceStrings
namespace Go.Proofs.YtoegojolimaodaaDoor.lengthSetCard
open Go.ChangeShapes Go.WideShapes Go.ChangeAt Go.RowKit
set_option linter.unusedVariables false
set_option linter.unusedSimpArgs false

theorem own : ownKnob Tryd.prog.godebug = none := by kernel_rfl
theorem laidOut : laidOutB Tryd.prog = true := Facts.laidOut

open Go.Abs in
set_option maxRecDepth 100000 in
theorem typed (as0 : List AV) (h0 : TyA Tryd.prog 4 22 as0) (as1 : List AV) (h1 : TyA Tryd.prog 4 3 as1) (as2 : List AV) (h2 : TyA Tryd.prog 4 3 as2) : SpecE Tryd.prog 4 [] [mkE Tryd.prog 22 as0, mkE Tryd.prog 3 as1, mkE Tryd.prog 3 as2] [] (.bool true) := by
  simp only [TyA, Tryd.underlying22] at h0
  obtain ⟨l0, rfl, n0, e0⟩ := h0
  obtain ⟨x0, rfl, b0⟩ := exists_map (α := List UInt8 × List UInt8) (f := fun r => .agg [.str r.1, .str r.2]) (p := fun r => r.1.length ≤ maxLen ∧ r.2.length ≤ maxLen) (l := l0) (fun x hx => by
    obtain ⟨cs, rfl, hc⟩ := e0 x hx
    simp only [TyA, TyF, Tryd.underlying37, List.toList_toArray] at hc
    obtain ⟨c0, r0, rfl, g0, ⟨c1, r1, rfl, g1, rfl⟩⟩ := hc
    obtain ⟨x0, rfl, k0⟩ := g0
    obtain ⟨x1, rfl, k1⟩ := g1
    exact ⟨(x0, x1), by simp only [mkE, Tryd.Ty.a37, List.cons_append, List.nil_append, List.append_nil], k0, k1⟩)
  rw [List.length_map] at n0
  have z0 : Tryd.prog.cellsOf 37 = 2 := by kernel_rfl
  rw [z0]
  simp only [TyA, Tryd.underlying3] at h1
  obtain ⟨x1, rfl, b1⟩ := h1
  simp only [TyA, Tryd.underlying3] at h2
  obtain ⟨x2, rfl, b2⟩ := h2
  simp only [mkE, Tryd.Ty.a22, Tryd.Ty.a3, List.headD_cons, List.cons_append, List.nil_append, List.append_nil]
  apply Tryd.Len.specLawSet <;> assumption

set_option maxRecDepth 100000 in
theorem walk (w : World) (vs : List Value) (as0 : List Abs.AV) (h0 : Abs.TyA Tryd.prog 4 22 as0) (as1 : List Abs.AV) (h1 : Abs.TyA Tryd.prog 4 3 as1) (as2 : List Abs.AV) (h2 : Abs.TyA Tryd.prog 4 3 as2) (hr : Abs.RpL w (fun b _ => b < w.heap.size) [Abs.mkE Tryd.prog 22 as0, Abs.mkE Tryd.prog 3 as1, Abs.mkE Tryd.prog 3 as2] vs) :
    Calls Tryd.prog 4 vs.toArray w fun e w' => e = .returned (.bool true) ∧ Below w.heap.size w w' :=
  Abs.law_at (by decide +kernel) (typed as0 h0 as1 h1 as2 h2) _ (fun _ _ h => h) hr

set_option maxRecDepth 100000 in
theorem lifted (os : Os) (started : os.Started) (H : Type) (enc : TypeId × Value → H) :
    ReturnsInHanded {} Tryd.checked os 4 .any (fun w args => (Rows.lengthSetSpec.pre enc Tryd.prog Tryd.f4 Rows.lengthSetRow.domain false w args ∧ laidMetH Tryd.prog Rows.lengthSetRow.laid w) ∧ sizedMet enc Tryd.prog Tryd.f4 (OpenSpec.ofChange Rows.lengthSetSpec) false w args)
      (Rows.lengthSetSpec.post enc Tryd.prog Tryd.f4 false true false false) := by
  refine returnsInHanded_of_change_and (C := Tryd.checked) (X := fun w _ => laidMetH Tryd.prog Rows.lengthSetRow.laid w) (fun _ _ _ hh h => h.of_heap hh) own started (by kernel_rfl) Tryd.func4
    (ChangeSpec.witness_shaped (enc := enc) (C := Tryd.checked) (os := os) (X := fun w _ => laidMetH Tryd.prog Rows.lengthSetRow.laid w) false (World.laidAll Tryd.prog os Rows.lengthSetRow.laid) #[.slice none 0 0, .int .i64 0, .int .i64 0] 8 (World.laidAll_os _ _ _)
      (World.shaped_of_ZipB (by kernel_rfl) (by kernel_rfl)) (by kernel_rfl) (by kernel_rfl) (by kernel_rfl)
      (by rw [MakeChecks.laidMetH_plain _ _ _ (by kernel_rfl)]; exact laidMet_laidAll _ (by kernel_rfl) (by kernel_rfl))) ?_
  intro W base args ds gs before hval0 hW hcnd _ hL _
  have hval : ∀ (j : Nat) t v, Tryd.f4.params[j]? = some t → args[j]? = some v → Value.okWide Tryd.prog W .any base t v := hval0
  have hW' := hW
  obtain ⟨p, q, hA0, hV, rfl, hfz, hnd⟩ := hW
  have hA : DataW.TrodAll enc Tryd.prog W 0 (fun _ => true) true Tryd.f4.params.toList args.toList ds p := hA0
  rw [Tryd.params4] at hA hval
  obtain ⟨v0, vs0, d0, ds0, p0, q0, hargs, rfl, rfl, h0, r0⟩ := trodAll_cons hA
  obtain ⟨v1, vs1, d1, ds1, p1, q1, rfl, rfl, rfl, h1, r1⟩ := trodAll_cons r0
  obtain ⟨v2, vs2, d2, ds2, p2, q2, rfl, rfl, rfl, h2, r2⟩ := trodAll_cons r1
  obtain ⟨rfl, rfl, rfl⟩ := trodAll_nil r2
  obtain rfl : args = #[v0, v1, v2] := by cases args; simp_all
  obtain ⟨rfl, rfl⟩ := trodVars_none hV
  have k0 := h0
  have lt0 : ∀ x ∈ p0, x.block < W.heap.size := by obtain ⟨m, hm⟩ := k0; exact DataW.trod_lt m _ _ _ hm
  have k1 := h1
  have lt1 : ∀ x ∈ p1, x.block < W.heap.size := by obtain ⟨m, hm⟩ := k1; exact DataW.trod_lt m _ _ _ hm
  have k2 := h2
  have lt2 : ∀ x ∈ p2, x.block < W.heap.size := by obtain ⟨m, hm⟩ := k2; exact DataW.trod_lt m _ _ _ hm
  obtain ⟨as0, y0, z0⟩ := Abs.open_arg 4 (by decide +kernel) (hval 0 22 v0 rfl rfl) h0
  obtain ⟨as1, y1, z1⟩ := Abs.open_arg 4 (by decide +kernel) (hval 1 3 v1 rfl rfl) h1
  obtain ⟨as2, y2, z2⟩ := Abs.open_arg 4 (by decide +kernel) (hval 2 3 v2 rfl rfl) h2
  clear hA0 hval0
  refine (walk W [v0, v1, v2] as0 y0 as1 y1 as2 y2 (.cons _ _ _ _ z0 (.cons _ _ _ _ z1 (.cons _ _ _ _ z2 .nil)))).mono fun e W' ⟨he, bel⟩ => ?_
  subst he
  exact ⟨_, rfl, _, _, _, [], _, [], hW', trodAll_mk1 (shut_bool Tryd.underlying4 _), (trodAll_cons_mk (Below.trod laidOut (by kernel_rfl) (of_decide_eq_true (by kernel_rfl)) k0 bel lt0) (trodAll_cons_mk (Below.trod laidOut (by kernel_rfl) (of_decide_eq_true (by kernel_rfl)) k1 bel lt1) (trodAll_cons_mk (Below.trod laidOut (by kernel_rfl) (of_decide_eq_true (by kernel_rfl)) k2 bel lt2) trodAll_mk0))), rfl, bel.frame _, fun h => by cases h⟩

set_option maxRecDepth 100000 in
set_option maxHeartbeats 0 in
theorem closed : joinedFacts Tryd.pinned.checked.prog 4 Tryd.f4 Rows.lengthSetSpec Rows.lengthSetRow = true := by
  unfold joinedFacts
  repeat' (with_reducible apply Facts.andT)
  all_goals first | (with_reducible exact Facts.mayEnter) | (with_reducible exact Facts.laidOut) | (with_reducible exact Facts.mapsR) | (with_reducible exact Facts.stops) | (with_reducible exact Facts.stopKnobs) | (with_reducible exact Facts.stopsHeard) | (rw [Facts.liftsFinal]; rfl) | (rw [Facts.make]; rfl) | as_aux_lemma => kernel_rfl
theorem over : Rows.lengthSetRow.holds Tryd.pinned (OpenSpec.ofChange Rows.lengthSetSpec) :=
  OpenClaim.holds_of_wide 4 Tryd.f4 rfl rfl rfl rfl rfl rfl rfl ⟨rfl, rfl, rfl, rfl, rfl⟩ rfl rfl rfl rfl rfl (by kernel_rfl) Tryd.func4 closed
    (of_decide_eq_true (by kernel_rfl)) (by unfold Func.isWrapper; first | (rw [if_pos (by decide +kernel)]; kernel_rfl) | (rw [if_neg (by decide +kernel)]; exact ⟨rfl, rfl⟩))
    (fun os started H enc _ => lifted os started H enc)

/-- The statement. -/
theorem proved : Rows.LengthSetCardSaid :=
  Claim7.holds_tied_plain_at .later [] [.data, .pinned] true _ _ over (fun _ h => by cases h) (by kernel_rfl) (fun _ h => by cases h) lengthSet_row_tie rfl ⟨rfl, rfl⟩ (by kernel_rfl) rfl
    (fun f fn hf hfn => by
      obtain rfl : f = 4 := Option.some.inj ((show Tryd.prog.funcNamed Rows.lengthSetRow.func = some 4 by kernel_rfl).symm.trans hf) |>.symm
      obtain rfl : fn = Tryd.f4 := (Option.some.inj (Tryd.func4.symm.trans hfn)).symm
      exact ⟨by kernel_rfl, fun j t ht => by
        rw [Tryd.params4] at ht
        have hm : t ∈ [22, 3, 3] := by simpa using Array.mem_of_getElem? ht
        have hall : ([22, 3, 3].all fun u => !Tryd.prog.wantsStandIn u) = true := by kernel_rfl
        exact (show Tryd.prog.wantsStandIn t = false by simpa using List.all_eq_true.1 hall t hm)⟩)
    (by kernel_rfl)
#print axioms proved
end Go.Proofs.YtoegojolimaodaaDoor.lengthSetCard
