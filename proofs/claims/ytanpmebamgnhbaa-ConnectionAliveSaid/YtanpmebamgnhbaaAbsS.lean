/- From a law's contract to what the frame of its statement asks. No condition. -/
import Derived.Test.YtanpmebamgnhbaaAbsR
set_option linter.unusedVariables false
set_option linter.unusedSimpArgs false
namespace Go.Abs

theorem Fr.below {w w' : World} (h : Fr (fun _ => False) w w') : RowKit.Below w.heap.size w w' := ⟨h.os, h.tape, h.output, h.size, fun k hk => h.block k hk (fun h => h)⟩

theorem heapOK_nil {w : World} {ok : Nat → Nat → Prop} (hok : ∀ b o, ok b o → b < w.heap.size) : HeapOK w ok (lkE []) (fun _ => none) :=
  ⟨fun id sz ro d c h => by simp [lkE] at h, fun id b h => by simp [lkE] at h, fun _ _ => rfl, fun i j b h => by simp at h, fun b o hb => ⟨hok b o hb, fun id h => by simp at h⟩⟩

/-- A LAW: it returns true, and nothing that was there has turned. -/
theorem law_below {P : Program} {f : FuncId} {args : List AV} (hc : (callable P f && decide (f ≠ yldF)) = true) (h : SpecE P f [] args [] (.bool true)) {w : World} {vs : List Value} (ok : Nat → Nat → Prop) (hok : ∀ b o, ok b o → b < w.heap.size) (hl : vs.length = args.length)
    (hr : ∀ (i : Nat) (a : AV) (v : Value), args[i]? = some a → vs[i]? = some v → Rp w ok a v) :
    Calls P f vs.toArray w fun e w' => e = .returned (.bool true) ∧ RowKit.Below w.heap.size w w' := by
  simp only [Bool.and_eq_true, decide_eq_true_eq] at hc
  refine ((h w ok (fun _ => none) vs (heapOK_nil hok) hl (fun i a v ha hv => .pure _ _ (hr i a v ha hv))).toCalls hc.1 hc.2).mono ?_
  rintro e w' ⟨v, ok', φ', rfl, post⟩
  have hv : v = .bool true := by
    have := post.val
    cases this with
    | pure _ _ h => cases h; rfl
  refine ⟨by rw [hv], Fr.below ⟨post.frame.os, post.frame.tape, post.frame.output, post.frame.size, fun k hk _ => post.frame.block k hk (fun ⟨i, hi⟩ => by simp at hi)⟩⟩

/-- Arguments, one by one. -/
inductive RpL (w : World) (ok : Nat → Nat → Prop) : List AV → List Value → Prop
  | nil : RpL w ok [] []
  | cons (a : AV) (v : Value) (as : List AV) (vs : List Value) (h : Rp w ok a v) (r : RpL w ok as vs) : RpL w ok (a :: as) (v :: vs)
theorem RpL.len {w ok as vs} (h : RpL w ok as vs) : vs.length = as.length := by
  induction h with
  | nil => rfl
  | cons a v as vs h r ih => simp [ih]
theorem RpL.get {w ok as vs} (h : RpL w ok as vs) : ∀ (i : Nat) (a : AV) (v : Value), as[i]? = some a → vs[i]? = some v → Rp w ok a v := by
  induction h with
  | nil => intro i a v ha; simp at ha
  | cons a v as vs h r ih =>
    intro i x u hx hu
    cases i with
    | zero => simp at hx hu; subst hx; subst hu; exact h
    | succ i => exact ih i x u (by simpa using hx) (by simpa using hu)
theorem law_at {P : Program} {f : FuncId} {args : List AV} (hc : (callable P f && decide (f ≠ yldF)) = true) (h : SpecE P f [] args [] (.bool true)) {w : World} {vs : List Value} (ok : Nat → Nat → Prop) (hok : ∀ b o, ok b o → b < w.heap.size) (hr : RpL w ok args vs) :
    Calls P f vs.toArray w fun e w' => e = .returned (.bool true) ∧ RowKit.Below w.heap.size w w' := law_below hc h ok hok hr.len hr.get

/-- With no block of its own a value hangs on none. -/
theorem R.toRp0 {w ok L φ a v} (hL : ∀ id, L id = none) (h : R w ok L φ a v) : Rp w ok a v := by
  induction h with
  | pure a v h => exact h
  | ref id off len hw va vn vc sz ro d c h => rw [hL] at h; cases h
  | ptr id i j hw pa sz ro d c h => rw [hL] at h; cases h
  | it id s pos b h => rw [hL] at h; cases h
  | yld id lc st pd sl b h => rw [hL] at h; cases h
  | agg cs vs hl h1 h ih => exact .agg cs vs hl h1 ih
  | tuple cs vs hl h ih => exact .tuple cs vs hl ih
  | clo f k cs vs hl h ih => exact .clo f k cs vs hl ih
  | condT a v h ih => exact .condT a v ih
/-- A function that is handed no block, by what is known of its calls (the library's contracts): it leaves what was there alone. -/
theorem SpecE.ofCalls {P : Program} {f : FuncId} {args : List AV} {res : AV} (hc : (callable P f && decide (f ≠ yldF)) = true)
    (h : ∀ (w : World) (ok : Nat → Nat → Prop) (vs : List Value), (∀ b o, ok b o → b < w.heap.size) → vs.length = args.length → (∀ (i : Nat) (a : AV) (v : Value), args[i]? = some a → vs[i]? = some v → Rp w ok a v) →
      Calls P f vs.toArray w fun e w' => ∃ v, e = .returned v ∧ RowKit.Below w.heap.size w w' ∧ ∀ ok' : Nat → Nat → Prop, Rp w' ok' res v) : SpecE P f [] args [] res := by
  simp only [Bool.and_eq_true, decide_eq_true_eq] at hc
  intro w ok φ vs hh hl hr
  have h0 : ∀ id, lkE [] id = none := fun id => rfl
  refine CallsX.calls hc.1 hc.2 ((h w ok vs (fun b o hb => (hh.shut b o hb).1) hl (fun i a v ha hv => (hr i a v ha hv).toRp0 h0)).mono ?_)
  rintro e w' ⟨v, rfl, bel, hv⟩
  have hφ : ∀ i b, φ i = some b → False := fun i b hb => by rw [hh.dom i (h0 i)] at hb; cases hb
  refine ⟨v, ok, φ, rfl, ⟨⟨bel.os, bel.tape, bel.output, bel.size, fun k hk _ => bel.block k hk⟩, ?_, .pure _ _ (hv ok), ?_, fun i b hb => (hφ i b hb).elim, fun b o hb => .inl hb⟩⟩
  · exact ⟨fun id sz ro d c h => by simp [lkE] at h, fun id b h => by simp [lkE] at h, hh.dom, hh.inj, fun b o hb => ⟨Nat.lt_of_lt_of_le (hh.shut b o hb).1 bel.size, (hh.shut b o hb).2⟩⟩
  · exact ⟨fun _ _ h => h, fun b o hb => World.cell?_of_block (a := ⟨b, o, none⟩) (bel.block b (hh.shut b o hb).1), fun id sz ro d c h => by simp [lkE] at h, fun id b h => by simp [lkE] at h⟩
theorem Rp.strInv {w ok s v} (h : Rp w ok (.str s) v) : v = .string ⟨s.toArray⟩ := by cases h; rfl
theorem Rp.intInv {w ok k n v} (h : Rp w ok (.int k n) v) : v = .int k n := by cases h; rfl
end Go.Abs
