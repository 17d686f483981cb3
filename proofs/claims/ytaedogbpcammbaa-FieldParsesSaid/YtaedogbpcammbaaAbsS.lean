/- From a law's contract to what the frame of its statement asks. No condition. -/
import Derived.Test.YtaedogbpcammbaaAbsR
set_option linter.unusedVariables false
set_option linter.unusedSimpArgs false
namespace Go.Abs

theorem Fr.below {w w' : World} (h : Fr (fun _ => False) w w') : RowKit.Below w.heap.size w w' := ⟨h.os, h.tape, h.output, h.size, fun k hk => h.block k hk (fun h => h)⟩

theorem heapOK_nil {w : World} {ok : Nat → Nat → Prop} (hok : ∀ b o, ok b o → b < w.heap.size) : HeapOK w ok (lkE []) (fun _ => none) :=
  ⟨fun id sz ro d c h => by simp [lkE] at h, fun id s pos h => by simp [lkE] at h, fun _ _ => rfl, fun i j b h => by simp at h, fun b o hb => ⟨hok b o hb, fun id h => by simp at h⟩⟩

/-- A LAW: it returns true, and nothing that was there has turned. -/
theorem law_below {P : Program} {f : FuncId} {args : List AV} (hc : (callable P f && decide (f ≠ yldF)) = true) (h : SpecE P f [] args [] (.bool true)) {w : World} {vs : List Value} (ok : Nat → Nat → Prop) (hok : ∀ b o, ok b o → b < w.heap.size) (hl : vs.length = args.length)
    (hr : ∀ (i : Nat) (a : AV) (v : Value), args[i]? = some a → vs[i]? = some v → Rp w ok a v) :
    Calls P f vs.toArray w fun e w' => e = .returned (.bool true) ∧ RowKit.Below w.heap.size w w' := by
  simp only [Bool.and_eq_true, decide_eq_true_eq] at hc
  refine ((h w ok (fun _ => none) vs (heapOK_nil hok) hl (fun i a v ha hv => .pure _ _ (hr i a v ha hv))).toCalls hc.1 hc.2).mono ?_
  rintro e w' ⟨v, ok', φ', rfl, post⟩
  have hv : v = .bool true := by
    have := post.val
    cases this with
    | pure _ _ h => cases h; rfl
  refine ⟨by rw [hv], Fr.below ⟨post.frame.os, post.frame.tape, post.frame.output, post.frame.size, fun k hk _ => post.frame.block k hk (fun ⟨i, hi⟩ => by simp at hi)⟩⟩

/-- Arguments, one by one. -/
inductive RpL (w : World) (ok : Nat → Nat → Prop) : List AV → List Value → Prop
  | nil : RpL w ok [] []
  | cons (a : AV) (v : Value) (as : List AV) (vs : List Value) (h : Rp w ok a v) (r : RpL w ok as vs) : RpL w ok (a :: as) (v :: vs)
theorem RpL.len {w ok as vs} (h : RpL w ok as vs) : vs.length = as.length := by
  induction h with
  | nil => rfl
  | cons a v as vs h r ih => simp [ih]
theorem RpL.get {w ok as vs} (h : RpL w ok as vs) : ∀ (i : Nat) (a : AV) (v : Value), as[i]? = some a → vs[i]? = some v → Rp w ok a v := by
  induction h with
  | nil => intro i a v ha; simp at ha
  | cons a v as vs h r ih =>
    intro i x u hx hu
    cases i with
    | zero => simp at hx hu; subst hx; subst hu; exact h
    | succ i => exact ih i x u (by simpa using hx) (by simpa using hu)
theorem law_at {P : Program} {f : FuncId} {args : List AV} (hc : (callable P f && decide (f ≠ yldF)) = true) (h : SpecE P f [] args [] (.bool true)) {w : World} {vs : List Value} (ok : Nat → Nat → Prop) (hok : ∀ b o, ok b o → b < w.heap.size) (hr : RpL w ok args vs) :
    Calls P f vs.toArray w fun e w' => e = .returned (.bool true) ∧ RowKit.Below w.heap.size w w' := law_below hc h ok hok hr.len hr.get
end Go.Abs
