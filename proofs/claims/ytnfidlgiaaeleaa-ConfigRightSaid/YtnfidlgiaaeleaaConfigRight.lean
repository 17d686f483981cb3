/- The statement ConfigRight. No condition beyond the statement's own. -/
import Derived.Test.YtnfidlgiaaeleaaRows
import Derived.Test.YtnfidlgiaaeleaaAbsV
import Derived.Test.YtnfidlgiaaeleaaTyp
import Derived.Test.YtnfidlgiaaeleaaFacts
import Derived.Test.YtnfidlgiaaeleaaCfg
import Derived.WalkKit
import Derived.ProofKit
import Derived.OpenShut
import Derived.ShutString
import Derived.ChangeOld
import Derived.Below
import Derived.SliceStrings
namespace Go.Proofs.Ytnfidlgiaaeleaa.configRight
open Go.ChangeShapes Go.WideShapes Go.ChangeAt Go.RowKit
set_option linter.unusedVariables false
set_option linter.unusedSimpArgs false

theorem own : ownKnob Try.prog.godebug = none := by kernel_rfl
theorem laidOut : laidOutB Try.prog = true := Facts.laidOut

open Go.Abs in
set_option maxRecDepth 100000 in
theorem typed (as0 : List AV) (h0 : TyA Try.prog 4 25 as0) : SpecE Try.prog 3 [] [mkE Try.prog 25 as0] [] (.bool true) := by
  simp only [TyA, TyF, Try.underlying25, List.toList_toArray] at h0
  obtain ⟨c0_0, r0_0, rfl, g0_0, ⟨c0_1, r0_1, rfl, g0_1, ⟨c0_2, r0_2, rfl, g0_2, ⟨c0_3, r0_3, rfl, g0_3, ⟨c0_4, r0_4, rfl, g0_4, ⟨c0_5, r0_5, rfl, g0_5, ⟨c0_6, r0_6, rfl, g0_6, ⟨c0_7, r0_7, rfl, g0_7, ⟨c0_8, r0_8, rfl, g0_8, ⟨c0_9, r0_9, rfl, g0_9, ⟨c0_10, r0_10, rfl, g0_10, ⟨c0_11, r0_11, rfl, g0_11, ⟨c0_12, r0_12, rfl, g0_12, ⟨c0_13, r0_13, rfl, g0_13, rfl⟩⟩⟩⟩⟩⟩⟩⟩⟩⟩⟩⟩⟩⟩ := h0
  obtain ⟨x0_0, rfl, b0_0⟩ := g0_0
  obtain ⟨x0_1, rfl, b0_1⟩ := g0_1
  obtain ⟨x0_2, rfl, b0_2⟩ := g0_2
  obtain ⟨x0_3, rfl, b0_3⟩ := g0_3
  obtain ⟨x0_4, rfl, b0_4⟩ := g0_4
  obtain ⟨x0_5, rfl, b0_5⟩ := g0_5
  obtain ⟨x0_6, rfl, b0_6⟩ := g0_6
  obtain ⟨x0_7, rfl, b0_7⟩ := g0_7
  obtain ⟨x0_8, rfl, b0_8⟩ := g0_8
  obtain ⟨x0_9, rfl, b0_9⟩ := g0_9
  obtain ⟨x0_10, rfl, b0_10⟩ := g0_10
  obtain ⟨x0_11, rfl, b0_11⟩ := g0_11
  obtain ⟨x0_12, rfl, b0_12⟩ := g0_12
  simp only [TyA, TyF, Try.underlying23, List.toList_toArray] at g0_13
  obtain ⟨c0_13_0, r0_13_0, rfl, g0_13_0, ⟨c0_13_1, r0_13_1, rfl, g0_13_1, ⟨c0_13_2, r0_13_2, rfl, g0_13_2, ⟨c0_13_3, r0_13_3, rfl, g0_13_3, ⟨c0_13_4, r0_13_4, rfl, g0_13_4, rfl⟩⟩⟩⟩⟩ := g0_13
  obtain ⟨x0_13_0, rfl, b0_13_0⟩ := g0_13_0
  obtain ⟨x0_13_1, rfl, b0_13_1⟩ := g0_13_1
  obtain ⟨x0_13_2, rfl, b0_13_2⟩ := g0_13_2
  obtain ⟨x0_13_3, rfl, b0_13_3⟩ := g0_13_3
  obtain ⟨x0_13_4, rfl, b0_13_4⟩ := g0_13_4
  simp only [mkE, Try.Ty.a25, List.headD_cons, List.cons_append, List.nil_append, List.append_nil]
  apply Try.Cfg.specLawRight <;> assumption

set_option maxRecDepth 100000 in
theorem walk (w : World) (vs : List Value) (as0 : List Abs.AV) (h0 : Abs.TyA Try.prog 4 25 as0) (hr : Abs.RpL w (fun b _ => b < w.heap.size) [Abs.mkE Try.prog 25 as0] vs) :
    Calls Try.prog 3 vs.toArray w fun e w' => e = .returned (.bool true) ∧ Below w.heap.size w w' :=
  Abs.law_at (by decide +kernel) (typed as0 h0) _ (fun _ _ h => h) hr

set_option maxRecDepth 100000 in
theorem lifted (os : Os) (started : os.Started) (H : Type) (enc : TypeId × Value → H) :
    ReturnsInHanded {} Try.checked os 3 .any (Rows.configRightSpec.pre6 enc Try.prog Try.f3 Rows.configRightRow.domain false) (Rows.configRightSpec.post enc Try.prog Try.f3 false true false false) := by
  refine returnsInHanded_of_change (C := Try.checked) own started (by kernel_rfl) Try.func3
    (ChangeSpec.witness6 (enc := enc) (C := Try.checked) false ⟨#[], #[.agg #[.string ⟨#[]⟩, .string ⟨#[]⟩, .int .i64 0, .int .i64 0, .int .i64 0, .int .i64 0, .int .i64 0, .int .i64 0, .int .i64 0, .int .i64 0, .int .i64 0, .int .i64 0, .int .i64 0, .int .i64 0, .int .i64 0, .int .i64 0, .int .i64 0, .int .i64 0]], []⟩ 8 (by kernel_rfl) (by kernel_rfl) (by kernel_rfl) (by kernel_rfl)) ?_
  intro W base args ds gs before hval0 hW hcnd _
  have hval : ∀ (j : Nat) t v, Try.f3.params[j]? = some t → args[j]? = some v → Value.okWide Try.prog W .any base t v := hval0
  have hW' := hW
  obtain ⟨p, q, hA0, hV, rfl, hfz, hnd⟩ := hW
  have hA : DataW.TrodAll enc Try.prog W 0 (fun _ => true) true Try.f3.params.toList args.toList ds p := hA0
  rw [Try.params3] at hA hval
  obtain ⟨v0, vs0, d0, ds0, p0, q0, hargs, rfl, rfl, h0, r0⟩ := trodAll_cons hA
  obtain ⟨rfl, rfl, rfl⟩ := trodAll_nil r0
  obtain rfl : args = #[v0] := by cases args; simp_all
  obtain ⟨rfl, rfl⟩ := trodVars_none hV
  have k0 := h0
  have lt0 : ∀ x ∈ p0, x.block < W.heap.size := by obtain ⟨m, hm⟩ := k0; exact DataW.trod_lt m _ _ _ hm
  obtain ⟨as0, y0, z0⟩ := Abs.open_arg 4 (by decide +kernel) (hval 0 25 v0 rfl rfl) h0
  clear hA0 hval0
  refine (walk W [v0] as0 y0 (.cons _ _ _ _ z0 .nil)).mono fun e W' ⟨he, bel⟩ => ?_
  subst he
  exact ⟨_, rfl, _, _, _, [], _, [], hW', trodAll_mk1 (shut_bool Try.underlying4 _), (trodAll_cons_mk (Below.trod laidOut (by kernel_rfl) (of_decide_eq_true (by kernel_rfl)) k0 bel lt0) trodAll_mk0), rfl, bel.frame _, fun h => by cases h⟩

set_option maxRecDepth 100000 in
set_option maxHeartbeats 0 in
theorem closed : joinedFacts Try.pinned.checked.prog 3 Try.f3 Rows.configRightSpec Rows.configRightRow = true := by
  unfold joinedFacts
  repeat' (with_reducible apply Facts.andT)
  all_goals first | (with_reducible exact Facts.mayEnter) | (with_reducible exact Facts.laidOut) | (with_reducible exact Facts.mapsR) | (with_reducible exact Facts.stops) | (with_reducible exact Facts.stopKnobs) | (with_reducible exact Facts.stopsHeard) | (rw [Facts.liftsFinal]; rfl) | (rw [Facts.make]; rfl) | as_aux_lemma => kernel_rfl
theorem over : Rows.configRightRow.holds Try.pinned (OpenSpec.ofChange Rows.configRightSpec) :=
  OpenClaim.holds_of_wide 3 Try.f3 rfl rfl rfl rfl rfl rfl rfl ⟨rfl, rfl, rfl, rfl, rfl⟩ rfl rfl rfl rfl rfl (by kernel_rfl) Try.func3 closed
    (of_decide_eq_true (by kernel_rfl)) (by unfold Func.isWrapper; first | (rw [if_pos (by decide +kernel)]; kernel_rfl) | (rw [if_neg (by decide +kernel)]; exact ⟨rfl, rfl⟩))
    (fun os started H enc _ => lifted os started H enc)

/-- The statement. -/
theorem proved : Rows.ConfigRightSaid := over
#print axioms proved
end Go.Proofs.Ytnfidlgiaaeleaa.configRight
