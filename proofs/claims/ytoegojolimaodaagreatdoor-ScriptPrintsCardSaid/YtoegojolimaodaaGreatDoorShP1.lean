/- The statement ScriptPrintsCard: the law for every input, package-level variables as the program lays them. No condition beyond the statement's own. -/
import Derived.Test.YtoegojolimaodaaGreatDoorShPF
import Derived.Test.YtoegojolimaodaaGreatDoorRows
import Derived.Test.YtoegojolimaodaaGreatDoorTie
import Derived.Test.YtoegojolimaodaaGreatDoorCards
import Derived.LaidMore
import Derived.Lay
import Derived.SevenTiedAt
import Derived.Stop.Joined
import Derived.WalkKit
import Derived.ProofKit
import Derived.OpenShut
import Derived.ShutString
import Derived.ChangeOld
import Derived.Below
import Derived.SliceStrings
namespace Go.Proofs.YtoegojolimaodaaGreatDoor.scriptPrintsCard
open Go.ChangeShapes Go.WideShapes Go.ChangeAt Go.RowKit
set_option linter.unusedVariables false
set_option linter.unusedSimpArgs false

theorem own : ownKnob Tryz.prog.godebug = none := by kernel_rfl
theorem laidOut : laidOutB Tryz.prog = true := Facts.laidOut

open Go.Abs in
set_option maxRecDepth 100000 in
theorem typed (as0 : List AV) (h0 : TyA Tryz.prog 6 28 as0) : SpecE Tryz.prog 4 [] [mkE Tryz.prog 28 as0] [] (.bool true) := by
  simp only [TyA, TyF, Tryz.underlying28, List.toList_toArray] at h0
  obtain ⟨cS0, rS0, rfl, gS0, ⟨cS1, rS1, rfl, gS1, ⟨cS2, rS2, rfl, gS2, rfl⟩⟩⟩ := h0
  simp only [TyA, TyF, Tryz.underlying25, List.toList_toArray] at gS0
  obtain ⟨cC0, rC0, rfl, gC0, ⟨cC1, rC1, rfl, gC1, ⟨cC2, rC2, rfl, gC2, ⟨cC3, rC3, rfl, gC3, ⟨cC4, rC4, rfl, gC4, ⟨cC5, rC5, rfl, gC5, ⟨cC6, rC6, rfl, gC6, ⟨cC7, rC7, rfl, gC7, ⟨cC8, rC8, rfl, gC8, ⟨cC9, rC9, rfl, gC9, ⟨cC10, rC10, rfl, gC10, ⟨cC11, rC11, rfl, gC11, ⟨cC12, rC12, rfl, gC12, ⟨cC13, rC13, rfl, gC13, rfl⟩⟩⟩⟩⟩⟩⟩⟩⟩⟩⟩⟩⟩⟩ := gS0
  obtain ⟨xC0, rfl, bC0⟩ := gC0
  obtain ⟨xC1, rfl, bC1⟩ := gC1
  obtain ⟨xC2, rfl, bC2⟩ := gC2
  obtain ⟨xC3, rfl, bC3⟩ := gC3
  obtain ⟨xC4, rfl, bC4⟩ := gC4
  obtain ⟨xC5, rfl, bC5⟩ := gC5
  obtain ⟨xC6, rfl, bC6⟩ := gC6
  obtain ⟨xC7, rfl, bC7⟩ := gC7
  obtain ⟨xC8, rfl, bC8⟩ := gC8
  obtain ⟨xC9, rfl, bC9⟩ := gC9
  obtain ⟨xC10, rfl, bC10⟩ := gC10
  obtain ⟨xC11, rfl, bC11⟩ := gC11
  obtain ⟨xC12, rfl, bC12⟩ := gC12
  simp only [TyA, TyF, Tryz.underlying23, List.toList_toArray] at gC13
  obtain ⟨cM0, rM0, rfl, gM0, ⟨cM1, rM1, rfl, gM1, ⟨cM2, rM2, rfl, gM2, ⟨cM3, rM3, rfl, gM3, ⟨cM4, rM4, rfl, gM4, rfl⟩⟩⟩⟩⟩ := gC13
  obtain ⟨xM0, rfl, bM0⟩ := gM0
  obtain ⟨xM1, rfl, bM1⟩ := gM1
  obtain ⟨xM2, rfl, bM2⟩ := gM2
  obtain ⟨xM3, rfl, bM3⟩ := gM3
  obtain ⟨xM4, rfl, bM4⟩ := gM4
  obtain ⟨now, rfl, bN⟩ := gS1
  simp only [TyA, Tryz.underlying26] at gS2
  obtain ⟨l0, rfl, n0, e0⟩ := gS2
  obtain ⟨xE, rfl, bE⟩ := exists_map (α := Go.Mdl.Ev) (f := Go.Mdl.enc_ev) (p := fun _ => True) (l := l0) (fun x hx => by
    obtain ⟨cs, rfl, hc⟩ := e0 x hx
    simp only [TyA, TyF, Tryz.underlying56, List.toList_toArray] at hc
    obtain ⟨cV0, rV0, rfl, gV0, ⟨cV1, rV1, rfl, gV1, ⟨cV2, rV2, rfl, gV2, ⟨cV3, rV3, rfl, gV3, rfl⟩⟩⟩⟩ := hc
    simp only [TyA, TyF, Tryz.underlying54, List.toList_toArray] at gV1
    obtain ⟨cW0, rW0, rfl, gW0, ⟨cW1, rW1, rfl, gW1, rfl⟩⟩ := gV1
    obtain ⟨a0, rfl, k0⟩ := gV0
    obtain ⟨a1, rfl, k1⟩ := gW0
    obtain ⟨a2, rfl, k2⟩ := gW1
    obtain ⟨a3, rfl, k3⟩ := gV2
    obtain ⟨a4, rfl, k4⟩ := gV3
    exact ⟨⟨a0, a1, a2, a3, a4⟩, by simp only [mkE, Tryz.Ty.a56, List.cons_append, List.nil_append, List.append_nil]; rfl, trivial⟩)
  rw [List.length_map] at n0
  have z0 : Tryz.prog.cellsOf 56 = 5 := by kernel_rfl
  rw [z0]
  simp only [mkE, Tryz.Ty.a28, List.headD_cons, List.cons_append, List.nil_append, List.append_nil]
  apply Tryz.ScpP.specLawPrints <;> assumption

set_option maxRecDepth 100000 in
theorem walk (w : World) (vs : List Value) (as0 : List Abs.AV) (h0 : Abs.TyA Tryz.prog 6 28 as0) (hr : Abs.RpL w (fun b _ => b < w.heap.size) [Abs.mkE Tryz.prog 28 as0] vs) :
    Calls Tryz.prog 4 vs.toArray w fun e w' => e = .returned (.bool true) ∧ Below w.heap.size w w' :=
  Abs.law_at (by decide +kernel) (typed as0 h0) _ (fun _ _ h => h) hr

set_option maxRecDepth 100000 in
theorem lifted (os : Os) (started : os.Started) (H : Type) (enc : TypeId × Value → H) :
    ReturnsInHanded {} Tryz.checked os 4 .any (fun w args => (Rows.scriptPrintsSpec.pre enc Tryz.prog Tryz.f4 Rows.scriptPrintsRow.domain false w args ∧ laidMetH Tryz.prog Rows.scriptPrintsRow.laid w) ∧ sizedMet enc Tryz.prog Tryz.f4 (OpenSpec.ofChange Rows.scriptPrintsSpec) false w args)
      (Rows.scriptPrintsSpec.post enc Tryz.prog Tryz.f4 false true false false) := by
  refine returnsInHanded_of_change_and (C := Tryz.checked) (X := fun w _ => laidMetH Tryz.prog Rows.scriptPrintsRow.laid w) (fun _ _ _ hh h => h.of_heap hh) own started (by kernel_rfl) Tryz.func4
    (ChangeSpec.witness_shaped (enc := enc) (C := Tryz.checked) (os := os) (X := fun w _ => laidMetH Tryz.prog Rows.scriptPrintsRow.laid w) false (World.laidAll Tryz.prog os Rows.scriptPrintsRow.laid) #[.agg #[.string ⟨#[]⟩, .string ⟨#[]⟩, .int .i64 0, .int .i64 0, .int .i64 0, .int .i64 0, .int .i64 0, .int .i64 0, .int .i64 0, .int .i64 0, .int .i64 0, .int .i64 0, .int .i64 0, .int .i64 0, .int .i64 0, .int .i64 0, .int .i64 0, .int .i64 0, .int .i64 0, .slice none 0 0]] 8 (World.laidAll_os _ _ _)
      (World.shaped_of_ZipB (by kernel_rfl) (by kernel_rfl)) (by kernel_rfl) (by kernel_rfl) (by kernel_rfl)
      (by rw [MakeChecks.laidMetH_plain _ _ _ (by kernel_rfl)]; exact laidMet_laidAll _ (by kernel_rfl) (by kernel_rfl))) ?_
  intro W base args ds gs before hval0 hW hcnd _ hL _
  have hval : ∀ (j : Nat) t v, Tryz.f4.params[j]? = some t → args[j]? = some v → Value.okWide Tryz.prog W .any base t v := hval0
  have hW' := hW
  obtain ⟨p, q, hA0, hV, rfl, hfz, hnd⟩ := hW
  have hA : DataW.TrodAll enc Tryz.prog W 0 (fun _ => true) true Tryz.f4.params.toList args.toList ds p := hA0
  rw [Tryz.params4] at hA hval
  obtain ⟨v0, vs0, d0, ds0, p0, q0, hargs, rfl, rfl, h0, r0⟩ := trodAll_cons hA
  obtain ⟨rfl, rfl, rfl⟩ := trodAll_nil r0
  obtain rfl : args = #[v0] := by cases args; simp_all
  obtain ⟨rfl, rfl⟩ := trodVars_none hV
  have k0 := h0
  have lt0 : ∀ x ∈ p0, x.block < W.heap.size := by obtain ⟨m, hm⟩ := k0; exact DataW.trod_lt m _ _ _ hm
  obtain ⟨as0, y0, z0⟩ := Abs.open_arg 6 (by decide +kernel) (hval 0 28 v0 rfl rfl) h0
  clear hA0 hval0
  refine (walk W [v0] as0 y0 (.cons _ _ _ _ z0 .nil)).mono fun e W' ⟨he, bel⟩ => ?_
  subst he
  exact ⟨_, rfl, _, _, _, [], _, [], hW', trodAll_mk1 (shut_bool Tryz.underlying4 _), (trodAll_cons_mk (Below.trod laidOut (by kernel_rfl) (of_decide_eq_true (by kernel_rfl)) k0 bel lt0) trodAll_mk0), rfl, bel.frame _, fun h => by cases h⟩

set_option maxRecDepth 100000 in
set_option maxHeartbeats 0 in
theorem closed : joinedFacts Tryz.pinned.checked.prog 4 Tryz.f4 Rows.scriptPrintsSpec Rows.scriptPrintsRow = true := by
  unfold joinedFacts
  repeat' (with_reducible apply Facts.andT)
  all_goals first | (with_reducible exact Facts.mayEnter) | (with_reducible exact Facts.laidOut) | (with_reducible exact Facts.mapsR) | (with_reducible exact Facts.stops) | (with_reducible exact Facts.stopKnobs) | (with_reducible exact Facts.stopsHeard) | (rw [Facts.liftsFinal]; rfl) | (rw [Facts.make]; rfl) | as_aux_lemma => kernel_rfl
theorem over : Rows.scriptPrintsRow.holds Tryz.pinned (OpenSpec.ofChange Rows.scriptPrintsSpec) :=
  OpenClaim.holds_of_wide 4 Tryz.f4 rfl rfl rfl rfl rfl rfl rfl ⟨rfl, rfl, rfl, rfl, rfl⟩ rfl rfl rfl rfl rfl (by kernel_rfl) Tryz.func4 closed
    (of_decide_eq_true (by kernel_rfl)) (by unfold Func.isWrapper; first | (rw [if_pos (by decide +kernel)]; kernel_rfl) | (rw [if_neg (by decide +kernel)]; exact ⟨rfl, rfl⟩))
    (fun os started H enc _ => lifted os started H enc)

/-- The statement. -/
theorem proved : Rows.ScriptPrintsCardSaid :=
  Claim7.holds_tied_plain_at .later [] [.data, .pinned] true _ _ over (fun _ h => by cases h) (by kernel_rfl) (fun _ h => by cases h) scriptPrints_row_tie rfl ⟨rfl, rfl⟩ (by kernel_rfl) rfl
    (fun f fn hf hfn => by
      obtain rfl : f = 4 := Option.some.inj ((show Tryz.prog.funcNamed Rows.scriptPrintsRow.func = some 4 by kernel_rfl).symm.trans hf) |>.symm
      obtain rfl : fn = Tryz.f4 := (Option.some.inj (Tryz.func4.symm.trans hfn)).symm
      exact ⟨by kernel_rfl, fun j t ht => by
        rw [Tryz.params4] at ht
        have hm : t ∈ [28] := by simpa using Array.mem_of_getElem? ht
        have hall : ([28].all fun u => !Tryz.prog.wantsStandIn u) = true := by kernel_rfl
        exact (show Tryz.prog.wantsStandIn t = false by simpa using List.all_eq_true.1 hall t hm)⟩)
    (by kernel_rfl)
#print axioms proved
end Go.Proofs.YtoegojolimaodaaGreatDoor.scriptPrintsCard
