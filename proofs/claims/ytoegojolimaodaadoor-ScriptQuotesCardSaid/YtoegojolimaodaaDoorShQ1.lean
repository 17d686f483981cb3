/- The statement ScriptQuotesCard: the law for every input, package-level variables as the program lays them. No condition beyond the statement's own. -/
import Derived.Test.YtoegojolimaodaaDoorShQF
import Derived.Test.YtoegojolimaodaaDoorRows
import Derived.Test.YtoegojolimaodaaDoorTie
import Derived.Test.YtoegojolimaodaaDoorCards
import Derived.LaidMore
import Derived.Lay
import Derived.SevenTiedAt
import Derived.Stop.Joined
import Derived.WalkKit
import Derived.ProofKit
import Derived.OpenShut
import Derived.ShutString
import Derived.ChangeOld
import Derived.Below
import Derived.SliceStrings
namespace Go.Proofs.YtoegojolimaodaaDoor.scriptQuotesCard
open Go.ChangeShapes Go.WideShapes Go.ChangeAt Go.RowKit
set_option linter.unusedVariables false
set_option linter.unusedSimpArgs false

theorem own : ownKnob Tryd.prog.godebug = none := by kernel_rfl
theorem laidOut : laidOutB Tryd.prog = true := Facts.laidOut

open Go.Abs in
set_option maxRecDepth 100000 in
theorem typed (as0 : List AV) (h0 : TyA Tryd.prog 4 9 as0) : SpecE Tryd.prog 5 [] [mkE Tryd.prog 9 as0] [] (.bool true) := by
  simp only [TyA, Tryd.underlying9] at h0
  obtain ⟨x0, rfl, b0⟩ := h0
  simp only [mkE, Tryd.Ty.a9, List.headD_cons, List.cons_append, List.nil_append, List.append_nil]
  apply Tryd.ScrL.specLawQuotes <;> assumption

set_option maxRecDepth 100000 in
theorem walk (w : World) (vs : List Value) (as0 : List Abs.AV) (h0 : Abs.TyA Tryd.prog 4 9 as0) (hr : Abs.RpL w (fun b _ => b < w.heap.size) [Abs.mkE Tryd.prog 9 as0] vs) :
    Calls Tryd.prog 5 vs.toArray w fun e w' => e = .returned (.bool true) ∧ Below w.heap.size w w' :=
  Abs.law_at (by decide +kernel) (typed as0 h0) _ (fun _ _ h => h) hr

set_option maxRecDepth 100000 in
theorem lifted (os : Os) (started : os.Started) (H : Type) (enc : TypeId × Value → H) :
    ReturnsInHanded {} Tryd.checked os 5 .any (fun w args => (Rows.scriptQuotesSpec.pre enc Tryd.prog Tryd.f5 Rows.scriptQuotesRow.domain false w args ∧ laidMetH Tryd.prog Rows.scriptQuotesRow.laid w) ∧ sizedMet enc Tryd.prog Tryd.f5 (OpenSpec.ofChange Rows.scriptQuotesSpec) false w args)
      (Rows.scriptQuotesSpec.post enc Tryd.prog Tryd.f5 false true false false) := by
  refine returnsInHanded_of_change_and (C := Tryd.checked) (X := fun w _ => laidMetH Tryd.prog Rows.scriptQuotesRow.laid w) (fun _ _ _ hh h => h.of_heap hh) own started (by kernel_rfl) Tryd.func5
    (ChangeSpec.witness_shaped (enc := enc) (C := Tryd.checked) (os := os) (X := fun w _ => laidMetH Tryd.prog Rows.scriptQuotesRow.laid w) false (World.laidAll Tryd.prog os Rows.scriptQuotesRow.laid) #[.string ⟨#[]⟩] 8 (World.laidAll_os _ _ _)
      (World.shaped_of_ZipB (by kernel_rfl) (by kernel_rfl)) (by kernel_rfl) (by kernel_rfl) (by kernel_rfl)
      (by rw [MakeChecks.laidMetH_plain _ _ _ (by kernel_rfl)]; exact laidMet_laidAll _ (by kernel_rfl) (by kernel_rfl))) ?_
  intro W base args ds gs before hval0 hW hcnd _ hL _
  have hval : ∀ (j : Nat) t v, Tryd.f5.params[j]? = some t → args[j]? = some v → Value.okWide Tryd.prog W .any base t v := hval0
  have hW' := hW
  obtain ⟨p, q, hA0, hV, rfl, hfz, hnd⟩ := hW
  have hA : DataW.TrodAll enc Tryd.prog W 0 (fun _ => true) true Tryd.f5.params.toList args.toList ds p := hA0
  rw [Tryd.params5] at hA hval
  obtain ⟨v0, vs0, d0, ds0, p0, q0, hargs, rfl, rfl, h0, r0⟩ := trodAll_cons hA
  obtain ⟨rfl, rfl, rfl⟩ := trodAll_nil r0
  obtain rfl : args = #[v0] := by cases args; simp_all
  obtain ⟨rfl, rfl⟩ := trodVars_none hV
  have k0 := h0
  have lt0 : ∀ x ∈ p0, x.block < W.heap.size := by obtain ⟨m, hm⟩ := k0; exact DataW.trod_lt m _ _ _ hm
  obtain ⟨as0, y0, z0⟩ := Abs.open_arg 4 (by decide +kernel) (hval 0 9 v0 rfl rfl) h0
  clear hA0 hval0
  refine (walk W [v0] as0 y0 (.cons _ _ _ _ z0 .nil)).mono fun e W' ⟨he, bel⟩ => ?_
  subst he
  exact ⟨_, rfl, _, _, _, [], _, [], hW', trodAll_mk1 (shut_bool Tryd.underlying4 _), (trodAll_cons_mk (Below.trod laidOut (by kernel_rfl) (of_decide_eq_true (by kernel_rfl)) k0 bel lt0) trodAll_mk0), rfl, bel.frame _, fun h => by cases h⟩

set_option maxRecDepth 100000 in
set_option maxHeartbeats 0 in
theorem closed : joinedFacts Tryd.pinned.checked.prog 5 Tryd.f5 Rows.scriptQuotesSpec Rows.scriptQuotesRow = true := by
  unfold joinedFacts
  repeat' (with_reducible apply Facts.andT)
  all_goals first | (with_reducible exact Facts.mayEnter) | (with_reducible exact Facts.laidOut) | (with_reducible exact Facts.mapsR) | (with_reducible exact Facts.stops) | (with_reducible exact Facts.stopKnobs) | (with_reducible exact Facts.stopsHeard) | (rw [Facts.liftsFinal]; rfl) | (rw [Facts.make]; rfl) | as_aux_lemma => kernel_rfl
theorem over : Rows.scriptQuotesRow.holds Tryd.pinned (OpenSpec.ofChange Rows.scriptQuotesSpec) :=
  OpenClaim.holds_of_wide 5 Tryd.f5 rfl rfl rfl rfl rfl rfl rfl ⟨rfl, rfl, rfl, rfl, rfl⟩ rfl rfl rfl rfl rfl (by kernel_rfl) Tryd.func5 closed
    (of_decide_eq_true (by kernel_rfl)) (by unfold Func.isWrapper; first | (rw [if_pos (by decide +kernel)]; kernel_rfl) | (rw [if_neg (by decide +kernel)]; exact ⟨rfl, rfl⟩))
    (fun os started H enc _ => lifted os started H enc)

/-- The statement. -/
theorem proved : Rows.ScriptQuotesCardSaid :=
  Claim7.holds_tied_plain_at .later [] [.data, .pinned] true _ _ over (fun _ h => by cases h) (by kernel_rfl) (fun _ h => by cases h) scriptQuotes_row_tie rfl ⟨rfl, rfl⟩ (by kernel_rfl) rfl
    (fun f fn hf hfn => by
      obtain rfl : f = 5 := Option.some.inj ((show Tryd.prog.funcNamed Rows.scriptQuotesRow.func = some 5 by kernel_rfl).symm.trans hf) |>.symm
      obtain rfl : fn = Tryd.f5 := (Option.some.inj (Tryd.func5.symm.trans hfn)).symm
      exact ⟨by kernel_rfl, fun j t ht => by
        rw [Tryd.params5] at ht
        have hm : t ∈ [9] := by simpa using Array.mem_of_getElem? ht
        have hall : ([9].all fun u => !Tryd.prog.wantsStandIn u) = true := by kernel_rfl
        exact (show Tryd.prog.wantsStandIn t = false by simpa using List.all_eq_true.1 hall t hm)⟩)
    (by kernel_rfl)
#print axioms proved
end Go.Proofs.YtoegojolimaodaaDoor.scriptQuotesCard
