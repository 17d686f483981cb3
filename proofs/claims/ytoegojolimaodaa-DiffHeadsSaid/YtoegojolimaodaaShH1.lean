/- The statement DiffHeads. No condition beyond the statement's own. -/
import Derived.Test.YtoegojolimaodaaShHF
import Derived.Test.YtoegojolimaodaaRows
import Derived.WalkKit
import Derived.ProofKit
import Derived.OpenShut
import Derived.ShutString
import Derived.ChangeOld
import Derived.Below
import Derived.SliceStrings
namespace Go.Proofs.Ytoegojolimaodaa.diffHeads
open Go.ChangeShapes Go.WideShapes Go.ChangeAt Go.RowKit
set_option linter.unusedVariables false
set_option linter.unusedSimpArgs false

theorem own : ownKnob Try.prog.godebug = none := by kernel_rfl
theorem laidOut : laidOutB Try.prog = true := Facts.laidOut

open Go.Abs in
set_option maxRecDepth 100000 in
theorem typed (as0 : List AV) (h0 : TyA Try.prog 4 24 as0) (as1 : List AV) (h1 : TyA Try.prog 4 24 as1) : SpecE Try.prog 3 [] [mkE Try.prog 24 as0, mkE Try.prog 24 as1] [] (.bool true) := by
  simp only [TyA, TyF, Try.underlying24, List.toList_toArray] at h0
  obtain ⟨c0_0, r0_0, rfl, g0_0, ⟨c0_1, r0_1, rfl, g0_1, ⟨c0_2, r0_2, rfl, g0_2, ⟨c0_3, r0_3, rfl, g0_3, ⟨c0_4, r0_4, rfl, g0_4, ⟨c0_5, r0_5, rfl, g0_5, rfl⟩⟩⟩⟩⟩⟩ := h0
  obtain ⟨x0_0, rfl, b0_0⟩ := g0_0
  obtain ⟨x0_1, rfl, b0_1⟩ := g0_1
  obtain ⟨x0_2, rfl, b0_2⟩ := g0_2
  obtain ⟨x0_3, rfl, b0_3⟩ := g0_3
  obtain ⟨x0_4, rfl, b0_4⟩ := g0_4
  simp only [TyA, Try.underlying22] at g0_5
  obtain ⟨l0_5, rfl, n0_5, e0_5⟩ := g0_5
  obtain ⟨x0_5, rfl, b0_5⟩ := exists_map (α := List UInt8 × List UInt8) (f := fun r => .agg [.str r.1, .str r.2]) (p := fun r => r.1.length ≤ maxLen ∧ r.2.length ≤ maxLen) (l := l0_5) (fun x hx => by
    obtain ⟨cs, rfl, hc⟩ := e0_5 x hx
    simp only [TyA, TyF, Try.underlying43, List.toList_toArray] at hc
    obtain ⟨c0, r0, rfl, g0, ⟨c1, r1, rfl, g1, rfl⟩⟩ := hc
    obtain ⟨x0, rfl, k0⟩ := g0
    obtain ⟨x1, rfl, k1⟩ := g1
    exact ⟨(x0, x1), by simp only [mkE, Try.Ty.a43, List.cons_append, List.nil_append, List.append_nil], k0, k1⟩)
  rw [List.length_map] at n0_5
  have z0_5 : Try.prog.cellsOf 43 = 2 := by kernel_rfl
  rw [z0_5]
  simp only [TyA, TyF, Try.underlying24, List.toList_toArray] at h1
  obtain ⟨c1_0, r1_0, rfl, g1_0, ⟨c1_1, r1_1, rfl, g1_1, ⟨c1_2, r1_2, rfl, g1_2, ⟨c1_3, r1_3, rfl, g1_3, ⟨c1_4, r1_4, rfl, g1_4, ⟨c1_5, r1_5, rfl, g1_5, rfl⟩⟩⟩⟩⟩⟩ := h1
  obtain ⟨x1_0, rfl, b1_0⟩ := g1_0
  obtain ⟨x1_1, rfl, b1_1⟩ := g1_1
  obtain ⟨x1_2, rfl, b1_2⟩ := g1_2
  obtain ⟨x1_3, rfl, b1_3⟩ := g1_3
  obtain ⟨x1_4, rfl, b1_4⟩ := g1_4
  simp only [TyA, Try.underlying22] at g1_5
  obtain ⟨l1_5, rfl, n1_5, e1_5⟩ := g1_5
  obtain ⟨x1_5, rfl, b1_5⟩ := exists_map (α := List UInt8 × List UInt8) (f := fun r => .agg [.str r.1, .str r.2]) (p := fun r => r.1.length ≤ maxLen ∧ r.2.length ≤ maxLen) (l := l1_5) (fun x hx => by
    obtain ⟨cs, rfl, hc⟩ := e1_5 x hx
    simp only [TyA, TyF, Try.underlying43, List.toList_toArray] at hc
    obtain ⟨c0, r0, rfl, g0, ⟨c1, r1, rfl, g1, rfl⟩⟩ := hc
    obtain ⟨x0, rfl, k0⟩ := g0
    obtain ⟨x1, rfl, k1⟩ := g1
    exact ⟨(x0, x1), by simp only [mkE, Try.Ty.a43, List.cons_append, List.nil_append, List.append_nil], k0, k1⟩)
  rw [List.length_map] at n1_5
  have z1_5 : Try.prog.cellsOf 43 = 2 := by kernel_rfl
  rw [z1_5]
  simp only [mkE, Try.Ty.a24, List.headD_cons, List.cons_append, List.nil_append, List.append_nil]
  apply Try.CanH.lawHeads <;> assumption

set_option maxRecDepth 100000 in
theorem walk (w : World) (vs : List Value) (as0 : List Abs.AV) (h0 : Abs.TyA Try.prog 4 24 as0) (as1 : List Abs.AV) (h1 : Abs.TyA Try.prog 4 24 as1) (hr : Abs.RpL w (fun b _ => b < w.heap.size) [Abs.mkE Try.prog 24 as0, Abs.mkE Try.prog 24 as1] vs) :
    Calls Try.prog 3 vs.toArray w fun e w' => e = .returned (.bool true) ∧ Below w.heap.size w w' :=
  Abs.law_at (by decide +kernel) (typed as0 h0 as1 h1) _ (fun _ _ h => h) hr

set_option maxRecDepth 100000 in
theorem lifted (os : Os) (started : os.Started) (H : Type) (enc : TypeId × Value → H) :
    ReturnsInHanded {} Try.checked os 3 .any (Rows.diffHeadsSpec.pre6 enc Try.prog Try.f3 Rows.diffHeadsRow.domain false) (Rows.diffHeadsSpec.post enc Try.prog Try.f3 false true false false) := by
  refine returnsInHanded_of_change (C := Try.checked) own started (by kernel_rfl) Try.func3
    (ChangeSpec.witness6 (enc := enc) (C := Try.checked) false ⟨#[], #[.agg #[.string ⟨#[]⟩, .string ⟨#[]⟩, .int .i64 0, .int .i64 0, .string ⟨#[]⟩, .slice none 0 0], .agg #[.string ⟨#[]⟩, .string ⟨#[]⟩, .int .i64 0, .int .i64 0, .string ⟨#[]⟩, .slice none 0 0]], []⟩ 8 (by kernel_rfl) (by kernel_rfl) (by kernel_rfl) (by kernel_rfl)) ?_
  intro W base args ds gs before hval0 hW hcnd _
  have hval : ∀ (j : Nat) t v, Try.f3.params[j]? = some t → args[j]? = some v → Value.okWide Try.prog W .any base t v := hval0
  have hW' := hW
  obtain ⟨p, q, hA0, hV, rfl, hfz, hnd⟩ := hW
  have hA : DataW.TrodAll enc Try.prog W 0 (fun _ => true) true Try.f3.params.toList args.toList ds p := hA0
  rw [Try.params3] at hA hval
  obtain ⟨v0, vs0, d0, ds0, p0, q0, hargs, rfl, rfl, h0, r0⟩ := trodAll_cons hA
  obtain ⟨v1, vs1, d1, ds1, p1, q1, rfl, rfl, rfl, h1, r1⟩ := trodAll_cons r0
  obtain ⟨rfl, rfl, rfl⟩ := trodAll_nil r1
  obtain rfl : args = #[v0, v1] := by cases args; simp_all
  obtain ⟨rfl, rfl⟩ := trodVars_none hV
  have k0 := h0
  have lt0 : ∀ x ∈ p0, x.block < W.heap.size := by obtain ⟨m, hm⟩ := k0; exact DataW.trod_lt m _ _ _ hm
  have k1 := h1
  have lt1 : ∀ x ∈ p1, x.block < W.heap.size := by obtain ⟨m, hm⟩ := k1; exact DataW.trod_lt m _ _ _ hm
  obtain ⟨as0, y0, z0⟩ := Abs.open_arg 4 (by decide +kernel) (hval 0 24 v0 rfl rfl) h0
  obtain ⟨as1, y1, z1⟩ := Abs.open_arg 4 (by decide +kernel) (hval 1 24 v1 rfl rfl) h1
  clear hA0 hval0
  refine (walk W [v0, v1] as0 y0 as1 y1 (.cons _ _ _ _ z0 (.cons _ _ _ _ z1 .nil))).mono fun e W' ⟨he, bel⟩ => ?_
  subst he
  exact ⟨_, rfl, _, _, _, [], _, [], hW', trodAll_mk1 (shut_bool Try.underlying4 _), (trodAll_cons_mk (Below.trod laidOut (by kernel_rfl) (of_decide_eq_true (by kernel_rfl)) k0 bel lt0) (trodAll_cons_mk (Below.trod laidOut (by kernel_rfl) (of_decide_eq_true (by kernel_rfl)) k1 bel lt1) trodAll_mk0)), rfl, bel.frame _, fun h => by cases h⟩

set_option maxRecDepth 100000 in
set_option maxHeartbeats 0 in
theorem closed : joinedFacts Try.pinned.checked.prog 3 Try.f3 Rows.diffHeadsSpec Rows.diffHeadsRow = true := by
  unfold joinedFacts
  repeat' (with_reducible apply Facts.andT)
  all_goals first | (with_reducible exact Facts.mayEnter) | (with_reducible exact Facts.laidOut) | (with_reducible exact Facts.mapsR) | (with_reducible exact Facts.stops) | (with_reducible exact Facts.stopKnobs) | (with_reducible exact Facts.stopsHeard) | (rw [Facts.liftsFinal]; rfl) | (rw [Facts.make]; rfl) | as_aux_lemma => kernel_rfl
theorem over : Rows.diffHeadsRow.holds Try.pinned (OpenSpec.ofChange Rows.diffHeadsSpec) :=
  OpenClaim.holds_of_wide 3 Try.f3 rfl rfl rfl rfl rfl rfl rfl ⟨rfl, rfl, rfl, rfl, rfl⟩ rfl rfl rfl rfl rfl (by kernel_rfl) Try.func3 closed
    (of_decide_eq_true (by kernel_rfl)) (by unfold Func.isWrapper; first | (rw [if_pos (by decide +kernel)]; kernel_rfl) | (rw [if_neg (by decide +kernel)]; exact ⟨rfl, rfl⟩))
    (fun os started H enc _ => lifted os started H enc)

/-- The statement. -/
theorem proved : Rows.DiffHeadsSaid := over
#print axioms proved
end Go.Proofs.Ytoegojolimaodaa.diffHeads
