/- The evaluator on code; functions. No condition. -/
import Derived.Test.YtlkfjkimnkhelaaDoorAbsO2
set_option linter.unusedVariables false
set_option linter.unusedSimpArgs false
namespace Go.Abs

inductive Ex where
  | normal
  | exit (n : Nat)
  | ret

def unrollN (body : St → (Ex → St → Prop) → Prop) (Q : Ex → St → Prop) (base : St → Prop) : Nat → St → Prop
  | 0, st => base st
  | n + 1, st => body st fun e st' => match e with
    | .normal => unrollN body Q base n st'
    | e => Q e st'

/-- A loop: an invariant, told by a family of states, and a measure. -/
def InvL (body : St → (Ex → St → Prop) → Prop) (m : Nat) (Q : Ex → St → Prop) (st : St) : Prop :=
  ∃ (X : Type) (emb : X → St) (I : X → Prop) (μ : X → Nat) (x0 : X), Weak m st (emb x0) ∧ I x0 ∧
    ∀ x, I x → body (emb x) fun e st' => match e with
      | .normal => ∃ x', Weak m st' (emb x') ∧ I x' ∧ μ x' < μ x
      | e => Q e st'

/-- A place where ways meet: what is known there. -/
structure CutS where
  X : Type
  emb : X → St
  I : X → Prop
/-- The region that a piece of code begins with. -/
def fstR : Code → Nat
  | .region id _ _ => id
  | .seq a _ => fstR a
  | .block _ b => fstR b
  | .loop b => fstR b
  | _ => 1000000

/-- The name of a loop's record; where D tells how many slots the frame has. -/
def loopId : Nat := 999990
def dN : Nat := 999997
/-- A range over a function, behind its call. -/
def WR2 (lc : LoopC) (st : St) (Q : Ex → St → Prop) : Prop :=
  match st.lk loopId with
  | some (.loop _ s pd sl) => s ≠ .busy ∧ (match pd with
    | none => Q .normal (st.upd [(loopId, .loop lc .exhausted pd sl)])
    | some .ret => Q .ret (st.upd [(loopId, .loop lc .exhausted pd sl)])
    | some (.exit i) => Q (.exit i) (st.upd [(loopId, .loop lc .exhausted pd sl)])
    | _ => False)
  | _ => False
/-- A range over a function: its record is laid, the iterator is called. -/
def enterL (lc : LoopC) (st : St) : List (Nat × Blk) := (loopId, .loop lc .ready none st.tmps) :: (defId, .defer) :: st.L
def WR1 (P : Program) (C : Tbl) (g : Operand) (lc : LoopC) (st : St) (Q : Ex → St → Prop) : Prop :=
  match (st.ev g).un with
  | .clo f k cs => f ≠ yldF ∧ callable P f = true ∧ (st.ev g).uc ∧ st.lk defId = none ∧ st.lk loopId = none ∧
    (match evCallP C (lkB (enterL lc st)) 900000 f (cs.take k ++ (.yld loopId :: cs.drop k)) with
    | some (_, u, p) => p ∧ WR2 lc ⟨st.tmps, u ++ enterL lc st⟩ Q
    | none => False)
  | _ => False
def WR (P : Program) (C : Tbl) (D : Nat → List Nat) (m : Nat) (g : Operand) (ps : Array Tmp) (assign body : Code) (st : St) (Q : Ex → St → Prop) : Prop :=
  ∃ (st1 : St) (lc : LoopC), Weak m st st1 ∧ lc.ps = ps ∧ lc.assign = assign ∧ lc.body = body ∧ D dN = [lc.n] ∧ WR1 P C g lc st1 Q

def W (P : Program) (C : Tbl) (wr : Bool) (D : Nat → List Nat) (U : Nat → Option CutS) (m : Nat) : Code → St → (Ex → St → Prop) → Prop
  | .skip, st, Q => Q .normal st
  | .label _, st, Q => Q .normal st
  | .scope b, st, Q => W P C wr D U m b st Q
  | .region id ops draw, st, Q =>
    match draw with
    | false => Wops P C wr ops.toList ops.toList st (Q .normal)
    | true => WopsD P C wr ops.toList (D id) ops.toList 0 st (Q .normal)
  | .seq a b, st, Q => match U (fstR b) with
    | none => W P C wr D U m a st fun e st' => match e with
      | .normal => W P C wr D U m b st' Q
      | e => Q e st'
    | some k => (W P C wr D U m a st fun e st' => match e with
      | .normal => ∃ x, WeakE m st' (k.emb x) ∧ k.I x
      | e => Q e st') ∧ ∀ x, k.I x → W P C wr D U m b (k.emb x) Q
  | .cond c t f, st, Q => match (st.ev c).un with
    | .bool b => (st.ev c).uc ∧ (b = true → W P C wr D U m t st Q) ∧ (b = false → W P C wr D U m f st Q)
    | .own _ l => (st.ev c).uc ∧ (l = [] → W P C wr D U m t st Q) ∧ W P C wr D U m f st Q
    | _ => False
  | .block id b, st, Q => W P C wr D U m b st fun e st' => match e with
    | .exit i => if i = id then Q .normal st' else Q (.exit i) st'
    | e => Q e st'
  | .loop b, st, Q => ∃ n, unrollN (W P C wr D U m b) Q (InvL (W P C wr D U m b) m Q) n st
  | .exit i, st, Q => Q (.exit i) st
  | .ret, st, Q => Q .ret st
  | .rangeFunc g ps assign body, st, Q => WR P C D m g ps assign body st Q
  | _, _, _ => False

/-- No range over a function stands in it. -/
def noRF : Code → Bool
  | .seq a b => noRF a && noRF b
  | .cond _ t f => noRF t && noRF f
  | .block _ b => noRF b
  | .loop b => noRF b
  | .scope b => noRF b
  | .rangeFunc .. => false
  | _ => true

/-- All slots lie in the frame. -/
def codeOK (P : Program) (N : Nat) (D : Nat → List Nat) : Code → Bool
  | .region id ops draw => dstsOK N ops.toList && (!draw || drawB P ops.toList (D id))
  | .seq a b => codeOK P N D a && codeOK P N D b
  | .cond _ t f => codeOK P N D t && codeOK P N D f
  | .block _ b => codeOK P N D b
  | .loop b => codeOK P N D b
  | .scope b => codeOK P N D b
  | .rangeFunc .. => decide (D dN = [N])
  | _ => true

def Ex.of : Ex → Exit
  | .normal => .normal
  | .exit n => .exit n
  | .ret => .ret

theorem unrollN_mono {body : St → (Ex → St → Prop) → Prop} {Q Q' : Ex → St → Prop} {base base' : St → Prop} (hb : ∀ st R R', (∀ e s, R e s → R' e s) → body st R → body st R') (hQ : ∀ e s, Q e s → Q' e s) (hbase : ∀ s, base s → base' s) :
    ∀ n st, unrollN body Q base n st → unrollN body Q' base' n st
  | 0, st, h => hbase st h
  | n + 1, st, h => hb st _ _ (fun e s hr => by
      cases e with
      | normal => exact unrollN_mono hb hQ hbase n s hr
      | exit i => exact hQ _ _ hr
      | ret => exact hQ _ _ hr) h

section
variable {P : Program} {C : Tbl} {wr : Bool} {D : Nat → List Nat} {U : Nat → Option CutS} {m : Nat}

theorem Wop.mono {all o st} {K K' : St → Prop} (hK : ∀ s, K s → K' s) (h : Wop P C wr all o st K) : Wop P C wr all o st K' := by
  unfold Wop at h ⊢
  split at h
  · split at h
    · exact ⟨h.1, h.2.1, hK _ h.2.2⟩
    · exact h
  · split at h
    · split at h
      · exact ⟨h.1, hK _ h.2⟩
      · exact ⟨fun he => ⟨(h.1 he).1, (h.1 he).2.1, hK _ (h.1 he).2.2⟩, fun he => hK _ (h.2 he)⟩
      · exact ⟨h.1, hK _ h.2⟩
    · exact h
theorem WopQ.mono {all o st} {K K' : St → Prop} (hK : ∀ s, K s → K' s) (h : WopQ P C wr all o st K) : WopQ P C wr all o st K' := by
  unfold WopQ at h ⊢
  split at h
  · split at h
    · exact ⟨h.1, h.2.1, hK _ h.2.2⟩
    · exact h
  · split at h
    · split at h
      · exact ⟨h.1, hK _ h.2⟩
      · exact h
      · exact ⟨h.1, hK _ h.2⟩
    · exact h
theorem Wops.mono {all} {Q Q' : St → Prop} (hQ : ∀ s, Q s → Q' s) : ∀ l st, Wops P C wr all l st Q → Wops P C wr all l st Q'
  | [], st, h => hQ _ h
  | o :: r, st, h => Wop.mono (fun s hs => Wops.mono hQ r s hs) h
theorem WopsD.mono {all ser} {Q Q' : St → Prop} (hQ : ∀ s, Q s → Q' s) : ∀ l k st, WopsD P C wr all ser l k st Q → WopsD P C wr all ser l k st Q'
  | [], k, st, h => hQ _ h
  | o :: r, k, st, h => by
    simp only [WopsD] at h ⊢
    split at h
    · exact Wop.mono (fun s hs => ⟨hs.1, WopsD.mono hQ r (k + 1) s hs.2⟩) h
    · exact ⟨h.1, WopQ.mono (fun s hs => WopsD.mono hQ r (k + 1) s hs) h.2⟩

theorem WR2.mono {lc : LoopC} {st : St} {Q Q' : Ex → St → Prop} (hQ : ∀ e s, Q e s → Q' e s) (h : WR2 lc st Q) : WR2 lc st Q' := by
  unfold WR2 at h ⊢
  split at h
  · refine ⟨h.1, ?_⟩
    have h2 := h.2
    split at h2
    · exact hQ _ _ h2
    · exact hQ _ _ h2
    · exact hQ _ _ h2
    · exact h2.elim
  · exact h.elim
theorem WR.mono {g : Operand} {ps : Array Tmp} {assign body : Code} {st : St} {Q Q' : Ex → St → Prop} (hQ : ∀ e s, Q e s → Q' e s) (h : WR P C D m g ps assign body st Q) : WR P C D m g ps assign body st Q' := by
  obtain ⟨st1, lc, h1, h2, h3, h4, h5, h6⟩ := h
  refine ⟨st1, lc, h1, h2, h3, h4, h5, ?_⟩
  unfold WR1 at h6 ⊢
  split at h6
  · obtain ⟨g1, g2, g3, g4, g5, g6⟩ := h6
    refine ⟨g1, g2, g3, g4, g5, ?_⟩
    split at g6
    · exact ⟨g6.1, g6.2.mono hQ⟩
    · exact g6.elim
  · exact h6.elim
theorem W_mono : ∀ (c : Code) (st : St) (Q Q' : Ex → St → Prop), (∀ e s, Q e s → Q' e s) → W P C wr D U m c st Q → W P C wr D U m c st Q' := by
  intro c
  induction c with
  | skip => intro st Q Q' hQ h; exact hQ _ _ h
  | label l => intro st Q Q' hQ h; exact hQ _ _ h
  | scope b ih =>
    intro st Q Q' hQ h
    simp only [W] at h ⊢
    exact ih st Q Q' hQ h
  | region id ops draw =>
    intro st Q Q' hQ h
    simp only [W] at h ⊢
    split at h
    · exact Wops.mono (fun s hs => hQ _ _ hs) _ _ h
    · exact WopsD.mono (fun s hs => hQ _ _ hs) _ _ _ h
  | seq a b iha ihb =>
    intro st Q Q' hQ h
    simp only [W] at h ⊢
    split at h
    · refine iha _ _ _ (fun e s hs => ?_) h
      cases e with
      | normal => exact ihb _ _ _ hQ hs
      | exit i => exact hQ _ _ hs
      | ret => exact hQ _ _ hs
    · refine ⟨iha _ _ _ (fun e s hs => ?_) h.1, fun x hx => ihb _ _ _ hQ (h.2 x hx)⟩
      cases e with
      | normal => exact hs
      | exit i => exact hQ _ _ hs
      | ret => exact hQ _ _ hs
  | cond c t f iht ihf =>
    intro st Q Q' hQ h
    simp only [W] at h ⊢
    split at h
    · exact ⟨h.1, fun hb => iht _ _ _ hQ (h.2.1 hb), fun hb => ihf _ _ _ hQ (h.2.2 hb)⟩
    · exact ⟨h.1, fun hb => iht _ _ _ hQ (h.2.1 hb), ihf _ _ _ hQ h.2.2⟩
    · exact h
  | block id b ih =>
    intro st Q Q' hQ h
    simp only [W] at h ⊢
    refine ih _ _ _ (fun e s hs => ?_) h
    cases e with
    | normal => exact hQ _ _ hs
    | exit i =>
      by_cases hi : i = id
      · simp only [if_pos hi] at hs ⊢; exact hQ _ _ hs
      · simp only [if_neg hi] at hs ⊢; exact hQ _ _ hs
    | ret => exact hQ _ _ hs
  | loop b ih =>
    intro st Q Q' hQ h
    simp only [W] at h ⊢
    obtain ⟨n, hn⟩ := h
    refine ⟨n, unrollN_mono (fun st R R' hR hr => ih st R R' hR hr) hQ (fun s hs => ?_) n st hn⟩
    obtain ⟨X, emb, I, μ, x0, h1, h2, h3⟩ := hs
    refine ⟨X, emb, I, μ, x0, h1, h2, fun x hx => ih _ _ _ (fun e s hs => ?_) (h3 x hx)⟩
    cases e with
    | normal => exact hs
    | exit i => exact hQ _ _ hs
    | ret => exact hQ _ _ hs
  | exit i => intro st Q Q' hQ h; exact hQ _ _ h
  | ret => intro st Q Q' hQ h; exact hQ _ _ h
  | rangeFunc g ps assign body _ _ => intro st Q Q' hQ h; simp only [W] at h ⊢; exact h.mono hQ
  | _ => intros; simp_all [W]

/-! W does not see in which order the state was written. -/
theorem Wop.eq {all o} {s t : St} {K : St → Prop} (hK : ∀ s t, StEq s t → K s → K t) (he : StEq s t) (h : Wop P C wr all o s K) : Wop P C wr all o t K := by
  have e1 := he.ev
  have e2 := he.2
  have e3 : ∀ g, guardE s all g = guardE t all g := guardE_eq he.1
  have nx := fun u d v => hK _ _ (StEq.next he u d v)
  have nx0 := fun d v => hK _ _ (StEq.next he [] d v)
  unfold Wop at h ⊢
  rw [← e1, ← e2]
  split at h
  · split at h
    · exact ⟨h.1, h.2.1, nx _ _ _ h.2.2⟩
    · exact h
  · rename_i g hg
    rw [← e3]
    split at h
    · split at h
      · exact ⟨h.1, nx0 _ _ h.2⟩
      · exact ⟨fun he' => ⟨(h.1 he').1, (h.1 he').2.1, nx _ _ _ (h.1 he').2.2⟩, fun he' => nx0 _ _ (h.2 he')⟩
      · exact ⟨h.1, nx0 _ _ h.2⟩
    · exact h
theorem WopQ.eq {all o} {s t : St} {K : St → Prop} (hK : ∀ s t, StEq s t → K s → K t) (he : StEq s t) (h : WopQ P C wr all o s K) : WopQ P C wr all o t K := by
  have e1 := he.ev
  have e2 := he.2
  have e3 : ∀ g, guardE s all g = guardE t all g := guardE_eq he.1
  have nx0 := fun d v => hK _ _ (StEq.next he [] d v)
  unfold WopQ at h ⊢
  rw [← e1, ← e2]
  split at h
  · split at h
    · exact ⟨h.1, h.2.1, nx0 _ _ h.2.2⟩
    · exact h
  · rename_i g hg
    rw [← e3]
    split at h
    · split at h
      · exact ⟨h.1, nx0 _ _ h.2⟩
      · exact h
      · exact ⟨h.1, nx0 _ _ h.2⟩
    · exact h
theorem Wops.eq {all} {Q : St → Prop} (hQ : ∀ s t, StEq s t → Q s → Q t) : ∀ l s t, StEq s t → Wops P C wr all l s Q → Wops P C wr all l t Q
  | [], s, t, he, h => hQ _ _ he h
  | o :: r, s, t, he, h => Wop.eq (fun s t he hs => Wops.eq hQ r s t he hs) he h
theorem WopsD.eq {all ser} {Q : St → Prop} (hQ : ∀ s t, StEq s t → Q s → Q t) : ∀ l k s t, StEq s t → WopsD P C wr all ser l k s Q → WopsD P C wr all ser l k t Q
  | [], k, s, t, he, h => hQ _ _ he h
  | o :: r, k, s, t, he, h => by
    simp only [WopsD] at h ⊢
    split at h
    · have hsame : ∀ (l : List Nat) (x y x' y' : St), x.lk = x'.lk → y.lk = y'.lk → sameAt x y l → sameAt x' y' l := by
        intro l x y x' y' e1 e2
        induction l with
        | nil => exact id
        | cons B l ih => intro hx; exact ⟨by rw [← e1, ← e2]; exact hx.1, ih hx.2⟩
      refine Wop.eq (fun x y hxy hs => ⟨?_, WopsD.eq hQ r (k + 1) x y hxy hs.2⟩) he (Wop.mono (fun x hx => ⟨hsame _ _ _ _ _ he.2 rfl hx.1, hx.2⟩) h)
      exact hsame _ _ _ _ _ rfl hxy.2 hs.1
    · have hload : ∀ (l : List Nat), loadC C o.op s l → loadC C o.op t l := by
        intro l
        induction l with
        | nil => exact id
        | cons B l ih => intro hx; exact ⟨loadB_same (fun x _ => by rw [he.ev]) hx.1, ih hx.2⟩
      exact ⟨hload _ h.1, WopQ.eq (fun s t he hs => WopsD.eq hQ r (k + 1) s t he hs) he h.2⟩

theorem Weak0.eq {s t x : St} (he : StEq s t) (h : Weak0 m s x) : Weak0 m t x := by
  obtain ⟨h1, h2, h3⟩ := h
  have : ∀ l, subT s x.lk l → subT t x.lk l := by
    intro l
    induction l with
    | nil => intro h; exact h
    | cons a l ih => intro h; exact ⟨by rw [← he.2, ← he.1]; exact h.1, ih h.2⟩
  exact ⟨this _ h1, by rw [← he.2]; exact h2, by rw [← he.2]; exact h3⟩
theorem StEq.swap {s t : St} (a b : Nat) (he : StEq s t) : StEq (s.swap a b) (t.swap a b) := by
  refine ⟨?_, ?_⟩
  · funext i; rw [swap_get, swap_get, he.1]
  · funext i; rw [swap_lk, swap_lk, he.2]
theorem Weak.eq {s t x : St} (he : StEq s t) (h : Weak m s x) : Weak m t x := by
  induction h generalizing t with
  | base h => exact .base (h.eq he)
  | swap a b h1 h2 h3 h4 _ ih => exact .swap a b h1 h2 h3 h4 (ih (he.swap a b))

theorem unrollN_eq {body : St → (Ex → St → Prop) → Prop} {Q : Ex → St → Prop} {base : St → Prop}
    (hb : ∀ (R : Ex → St → Prop), (∀ e s t, StEq s t → R e s → R e t) → ∀ s t, StEq s t → body s R → body t R) (hQ : ∀ e s t, StEq s t → Q e s → Q e t) (hbase : ∀ s t, StEq s t → base s → base t) :
    ∀ n s t, StEq s t → unrollN body Q base n s → unrollN body Q base n t
  | 0, s, t, he, h => hbase s t he h
  | n + 1, s, t, he, h => hb _ (fun e s t he hr => by
      cases e with
      | normal => exact unrollN_eq hb hQ hbase n s t he hr
      | exit i => exact hQ _ _ _ he hr
      | ret => exact hQ _ _ _ he hr) s t he h

theorem W_eq : ∀ (c : Code) (Q : Ex → St → Prop), (∀ e s t, StEq s t → Q e s → Q e t) → ∀ s t, StEq s t → W P C wr D U m c s Q → W P C wr D U m c t Q := by
  intro c
  induction c with
  | skip => intro Q hQ s t he h; exact hQ _ _ _ he h
  | label l => intro Q hQ s t he h; exact hQ _ _ _ he h
  | scope b ih =>
    intro Q hQ s t he h
    simp only [W] at h ⊢
    exact ih Q hQ s t he h
  | region id ops draw =>
    intro Q hQ s t he h
    simp only [W] at h ⊢
    split at h
    · exact Wops.eq (fun s t he hs => hQ _ _ _ he hs) _ _ _ he h
    · exact WopsD.eq (fun s t he hs => hQ _ _ _ he hs) _ _ _ _ he h
  | seq a b iha ihb =>
    intro Q hQ s t he h
    simp only [W] at h ⊢
    split at h
    · refine iha _ (fun e s t he hs => ?_) s t he h
      cases e with
      | normal => exact ihb _ hQ _ _ he hs
      | exit i => exact hQ _ _ _ he hs
      | ret => exact hQ _ _ _ he hs
    · refine ⟨iha _ (fun e s t he hs => ?_) s t he h.1, h.2⟩
      cases e with
      | normal => obtain ⟨x, h1, h2⟩ := hs; exact ⟨x, h1.eq he, h2⟩
      | exit i => exact hQ _ _ _ he hs
      | ret => exact hQ _ _ _ he hs
  | cond c tt f iht ihf =>
    intro Q hQ s t he h
    simp only [W] at h ⊢
    rw [← he.ev]
    split at h
    · exact ⟨h.1, fun hb => iht _ hQ _ _ he (h.2.1 hb), fun hb => ihf _ hQ _ _ he (h.2.2 hb)⟩
    · exact ⟨h.1, fun hb => iht _ hQ _ _ he (h.2.1 hb), ihf _ hQ _ _ he h.2.2⟩
    · exact h
  | block id b ih =>
    intro Q hQ s t he h
    simp only [W] at h ⊢
    refine ih _ (fun e s t he hs => ?_) s t he h
    cases e with
    | normal => exact hQ _ _ _ he hs
    | exit i =>
      by_cases hi : i = id
      · simp only [if_pos hi] at hs ⊢; exact hQ _ _ _ he hs
      · simp only [if_neg hi] at hs ⊢; exact hQ _ _ _ he hs
    | ret => exact hQ _ _ _ he hs
  | loop b ih =>
    intro Q hQ s t he h
    simp only [W] at h ⊢
    obtain ⟨n, hn⟩ := h
    refine ⟨n, unrollN_eq (fun R hR s t he hr => ih R hR s t he hr) hQ (fun s t he hs => ?_) n s t he hn⟩
    obtain ⟨X, emb, I, μ, x0, h1, h2, h3⟩ := hs
    exact ⟨X, emb, I, μ, x0, h1.eq he, h2, h3⟩
  | exit i => intro Q hQ s t he h; exact hQ _ _ _ he h
  | ret => intro Q hQ s t he h; exact hQ _ _ _ he h
  | rangeFunc g ps assign body _ _ =>
    intro Q hQ s t he h
    simp only [W] at h ⊢
    obtain ⟨st1, lc, h1, h2⟩ := h
    exact ⟨st1, lc, h1.eq he, h2⟩
  | _ => intros; simp_all [W]

/-! ### it is right -/
theorem stepR_scope {P : Program} {b : Frame} {a : Act} {k : List Item} {cs : List Frame} {w : World} {c : Code} : step P (lone (b.atR a (.code (.scope c) :: k)) cs w) = .next (lone (b.atR a (.code c :: .inScope c :: k)) cs w) :=
  step_lone_go (by simp [stepG, stepG.exec, Frame.atR])
theorem stepR_inScope {P : Program} {b : Frame} {a : Act} {k : List Item} {cs : List Frame} {w : World} {c : Code} : step P (lone (b.atR a (.inScope c :: k)) cs w) = .next (lone (b.atR a k) cs w) :=
  step_lone_go (by simp [stepG, stepG.exec, Frame.atR])
/-- A scope through which the run goes without a jump. -/
theorem wpIn_scope {F : Fence} {n : Nat} {P : Program} {Q : Exit → Act → World → Prop} {a : Act} {w : World} {c : Code} (hng : ∀ l a w, ¬ Q (.goto l) a w) (h : c.wpIn F n P Q a w) : (Code.scope c).wpIn F n P Q a w := by
  intro b k cs hro hb hr
  have h0 : (lone (b.atR a (.code (.scope c) :: k)) cs w).fenced P F := fenced_calm hb hr rfl
  obtain ⟨e, a₁, w₁, hq, harr⟩ := h b (.inScope c :: k) cs hro hb hr
  cases e with
  | normal => exact ⟨.normal, a₁, w₁, hq, .head h0 stepR_scope (StepsIn.trans harr (.one (fenced_calm hb hr rfl) stepR_inScope))⟩
  | exit id =>
    have hx : exitTo id (.inScope c :: k) = exitTo id k := by simp [exitTo]
    exact ⟨.exit id, a₁, w₁, hq, fun k' hk => .head h0 stepR_scope (harr.1 k' (by rw [hx]; exact hk)),
      fun hr' hk => let ⟨k₁, h1, h2⟩ := harr.2 hr' (by rw [hx]; exact hk); ⟨k₁, h1, .head h0 stepR_scope h2⟩⟩
  | goto l => exact (hng _ _ _ hq).elim
  | ret => exact ⟨_, a₁, w₁, hq, .of_steps (.one h0 stepR_scope) harr⟩
  | panic ch => exact ⟨_, a₁, w₁, hq, .of_steps (.one h0 stepR_scope) harr⟩
  | outgrown => exact ⟨_, a₁, w₁, hq, .of_steps (.one h0 stepR_scope) harr⟩
/-- A loop with a relation that carries its measure. -/
theorem wp_loop_rel {F : Fence} {nn : Nat} {c : Code} {Q : Exit → Act → World → Prop} {a : Act} {w : World} (I : Nat × Nat → Act → World → Prop) (n0 : Nat × Nat) (h₀ : I n0 a w)
    (round : ∀ n a w, I n a w → c.wpIn F nn P (Exit.then (fun a' w' => ∃ n', Prod.Lex (· < ·) (· < ·) n' n ∧ I n' a' w') Q) a w) : (Code.loop c).wpIn F nn P Q a w := by
  intro b k cs hro hb hr
  have key : ∀ n a w, I n a w → ∃ e a' w', Q e a' w' ∧ ArrivesIn (Machine.fenced P F) P (lone (b.atR a (.code c :: .inLoop c :: k)) cs w) b k cs e a' w' := by
    intro n
    refine WellFounded.induction (C := fun n => ∀ a w, I n a w → ∃ e a' w', Q e a' w' ∧ ArrivesIn (Machine.fenced P F) P (lone (b.atR a (.code c :: .inLoop c :: k)) cs w) b k cs e a' w')
      (Prod.lex (α := Nat) (β := Nat) ⟨_, Nat.lt_wfRel.wf⟩ ⟨_, Nat.lt_wfRel.wf⟩).wf n ?_
    intro n ih a w hI
    obtain ⟨e, a₁, w₁, hq, harr⟩ := round n a w hI b (.inLoop c :: k) cs hro hb hr
    cases e with
    | normal =>
      obtain ⟨n', hlt, hI₁⟩ := hq
      obtain ⟨e₂, a₂, w₂, hq₂, harr₂⟩ := ih n' hlt a₁ w₁ hI₁
      exact ⟨e₂, a₂, w₂, hq₂, .of_steps (StepsIn.trans harr (.one (fenced_calm hb hr rfl) stepR_inLoop)) harr₂⟩
    | exit id => exact ⟨_, a₁, w₁, hq, .pass (x := .inLoop c) rfl (fun _ _ => .inl (by simp)) harr⟩
    | goto l => exact ⟨_, a₁, w₁, hq, .pass (x := .inLoop c) rfl (fun _ _ => .inl (by simp)) harr⟩
    | ret => exact ⟨_, a₁, w₁, hq, .pass (x := .inLoop c) rfl (fun _ _ => .inl (by simp)) harr⟩
    | panic ch => exact ⟨_, a₁, w₁, hq, .pass (x := .inLoop c) rfl (fun _ _ => .inl (by simp)) harr⟩
    | outgrown => exact ⟨_, a₁, w₁, hq, .pass (x := .inLoop c) rfl (fun _ _ => .inl (by simp)) harr⟩
  obtain ⟨e, a', w', hq, harr⟩ := key _ a w h₀
  exact ⟨e, a', w', hq, .of_steps (.one (fenced_calm hb hr rfl) stepR_loop) harr⟩

variable {N : Nat} {L0 : Nat → Option Blk} {φ0 : Nat → Option Nat} {ok0 : Nat → Nat → Prop} {w0 : World}

/-- What the evaluator's outcome says of the machine's. -/
def Post (N : Nat) (L0 : Nat → Option Blk) (φ0 : Nat → Option Nat) (ok0 : Nat → Nat → Prop) (w0 : World) (Q : Ex → St → Prop) : Exit → Act → World → Prop := fun e a w =>
  ∃ x st ok φ, e = Ex.of x ∧ Q x st ∧ Sim N L0 φ0 ok0 w0 st ok φ a w

theorem Sim.upd1 {st : St} {ok : Nat → Nat → Prop} {φ : Nat → Option Nat} {a : Act} {w w' : World} {u : List (Nat × Blk)} {ok' : Nat → Nat → Prop} {φ' : Nat → Option Nat}
    (h : Sim N L0 φ0 ok0 w0 st ok φ a w) (hx : Ext w0 (fun b => ∃ i, φ0 i = some b) st.lk ok φ w (st.upd u).lk ok' φ' w') : Sim N L0 φ0 ok0 w0 (st.upd u) ok' φ' a w' := by
  have := h.put (dst := none) rfl hx (v' := .any) (v := undef) (.pure _ _ (.any _))
  exact this

theorem WR1_wp {F : Fence} {nn : Nat} (hFw : F = Fence.wide) (hC : TblOK P C) {g : Operand} {lc : LoopC} {Q : Ex → St → Prop} {st : St} {ok : Nat → Nat → Prop} {φ : Nat → Option Nat} {a : Act} {w : World} (hn : lc.n = N)
    (h : WR1 P C g lc st Q) (hS : Sim N L0 φ0 ok0 w0 st ok φ a w) : (Code.rangeFunc g lc.ps lc.assign lc.body).wpIn F nn P (Post N L0 φ0 ok0 w0 Q) a w := by
  have hF : Good F := .inl hFw
  unfold WR1 at h
  split at h
  · rename_i f k cs hg
    obtain ⟨hy, hcl, huc, hd, hl, h⟩ := h
    split at h
    · rename_i v0 u p ho
      obtain ⟨hp, h⟩ := h
      have hgr := (hS.ev g).un huc
      rw [hg] at hgr
      obtain ⟨us, hgv, hul, hur⟩ : ∃ us : List Value, a.eval g = .func (.func f) (us.take k).toArray (us.drop k).toArray ∧ us.length = cs.length ∧ (∀ (i : Nat) (x : AV) (v : Value), cs[i]? = some x → us[i]? = some v → R w ok st.lk φ x v) := by
        generalize a.eval g = gv at hgr
        cases hgr with
        | pure _ _ h => cases h with | clo _ _ _ us hl h => exact ⟨us, rfl, hl, fun i x v hx hv => .pure _ _ (h i x v hx hv)⟩
        | clo _ _ _ us hl h => exact ⟨us, rfl, hl, h⟩
      have hds : a.defers = [] := by
        rcases hS.defers with h1 | ⟨b, h1, _⟩
        · exact h1
        · rw [hd] at h1; cases h1
      refine wpIn_rangeFunc (fun fn hfn => ?_)
      have hro : F.round = none := by rw [hFw]; rfl
      rw [hro]
      -- the two blocks
      obtain ⟨rec, hrec⟩ : ∃ rec : Loop, rec = { state := .ready, pending := none, fn, tmps := a.tmps, params := lc.ps, assign := lc.assign, body := lc.body, defers := w.heap.size } := ⟨_, rfl⟩
      have x1 := Ext.new (w0 := w0) (X := fun b => ∃ i, φ0 i = some b) (blk := .defer) (id := defId) hS.heap hS.frame.size hd (Grow.alloc w (.deferred (some []))) (.inr .defer)
      have e1 : (st.upd [(defId, .defer)]).lk = updL st.lk defId .defer := lk_upd1 ..
      rw [← e1] at x1
      have S1 := hS.upd1 x1
      have hl1 : (st.upd [(defId, .defer)]).lk loopId = none := by rw [e1]; simp only [updL]; rw [if_neg (by decide)]; exact hl
      have x2 := Ext.new (w0 := w0) (X := fun b => ∃ i, φ0 i = some b) (blk := .loop lc .ready none st.tmps) (id := loopId) S1.heap S1.frame.size hl1 (Grow.alloc (w.alloc (.deferred (some []))) (.loop rec))
        (.inr (.loop _ _ _ _ _ ⟨by rw [hrec], by rw [hrec], by rw [hrec], by rw [hrec], by rw [hrec], by rw [hrec]; simp only; rw [hS.size, hn], fun t => by rw [hrec]; exact S1.slots t⟩))
      have e2 : ((st.upd [(defId, .defer)]).upd [(loopId, .loop lc .ready none st.tmps)]).lk = updL (st.upd [(defId, .defer)]).lk loopId (.loop lc .ready none st.tmps) := lk_upd1 ..
      rw [← e2] at x2
      have S2 := S1.upd1 x2
      have hLe : ((st.upd [(defId, .defer)]).upd [(loopId, .loop lc .ready none st.tmps)]) = ⟨st.tmps, enterL lc st⟩ := rfl
      rw [hLe] at S2 x2
      generalize hφ2 : updP (updP φ defId (some w.heap.size)) loopId (some (w.alloc (.deferred (some []))).heap.size) = φ2 at S2 x2
      have hφl : φ2 loopId = some (w.heap.size + 1) := by rw [← hφ2]; simp [updP]
      have hφd : φ2 defId = some w.heap.size := by rw [← hφ2]; simp [updP, loopId, defId]
      generalize hW1 : (w.alloc (.deferred (some []))).alloc (.loop rec) = W1 at S2 x2
      have hkeep : ∀ x v, R w ok st.lk φ x v → R W1 ok (St.lk ⟨st.tmps, enterL lc st⟩) φ2 x v := fun x v hr => (hr.keep x1.keeps).keep x2.keeps
      have hyr : R W1 ok (St.lk ⟨st.tmps, enterL lc st⟩) φ2 (.yld loopId) (.func (.yield (w.heap.size + 1)) #[] #[]) :=
        .yld loopId lc .ready none st.tmps (w.heap.size + 1) (by simp [St.lk, enterL, lkB]) hφl
      have hcalls := evCallP_ok (w0 := w0) (X := fun b => ∃ i, φ0 i = some b) (vs := us.take k ++ (.func (.yield (w.heap.size + 1)) #[] #[] :: us.drop k)) hC (L := St.lk ⟨st.tmps, enterL lc st⟩) (Lst := enterL lc st) rfl ho hp S2.heap (by simp [hul]) (fun i x v hx hv => by
        rw [List.getElem?_append] at hx hv
        have hlen : (us.take k).length = (cs.take k).length := by simp [hul]
        rw [hlen] at hv
        split at hx
        · rename_i hlt
          rw [if_pos hlt] at hv
          rw [List.getElem?_take] at hx hv
          split at hx
          · rename_i hk
            rw [if_pos hk] at hv
            exact hkeep _ _ (hur _ _ _ hx hv)
          · simp at hx
        · rename_i hlt
          rw [if_neg hlt] at hv
          cases hi : i - (cs.take k).length with
          | zero => rw [hi] at hx hv; simp at hx hv; subst hx; subst hv; exact hyr
          | succ j =>
            rw [hi] at hx hv
            simp only [List.getElem?_cons_succ, List.getElem?_drop] at hx hv
            exact hkeep _ _ (hur _ _ _ hx hv))
      have hargs : (us.take k).toArray ++ #[Value.func (.yield (w.heap.size + 1)) #[] #[]] ++ (us.drop k).toArray = (us.take k ++ (.func (.yield (w.heap.size + 1)) #[] #[] :: us.drop k)).toArray := by
        apply Array.ext'; simp
      refine ⟨w.heap.size + 1, markOf w.heap.size, W1, { target := .fn (.func f) (us.drop k).toArray, args := (us.take k).toArray ++ #[.func (.yield (w.heap.size + 1)) #[] #[]] }, W1, f,
        (us.take k ++ (.func (.yield (w.heap.size + 1)) #[] #[] :: us.drop k)).toArray, W1, ?_, ?_, fun f' _ => hF.fn f', ?_, hF.deep, ?_⟩
      · rw [← hW1, hrec]; exact run_enterLoop_outer _ _ _ _ _
      · simp [resolve, hgv, Deferred.ofValue]; rfl
      · simp only [invoke]
        rw [hargs]
        exact run_callFunc hcl
      · refine CallsIn.mono (hF.calls (hcalls.toCalls hcl hy)) ?_
        rintro e w' ⟨v, ok', φ', rfl, hx, _⟩
        have e3 : (St.upd ⟨st.tmps, enterL lc st⟩ u).lk = lkB (u ++ enterL lc st) := rfl
        rw [← e3] at hx
        have S3 := S2.upd1 hx
        obtain ⟨b', k1, k2, k3⟩ := hx.keeps.obj loopId (.loop lc .ready none st.tmps) (by simp [St.lk, enterL, lkB]) rfl
        rw [hφl] at k3
        obtain ⟨bd, d1, d2, d3⟩ := hx.keeps.obj defId .defer (by simp [St.lk, enterL, lkB, loopId, defId]) rfl
        rw [hφd] at d3
        unfold WR2 at h
        have e4 : (St.mk st.tmps (u ++ enterL lc st)) = St.upd ⟨st.tmps, enterL lc st⟩ u := rfl
        rw [e4] at h
        split at h
        · rename_i lc' s pd sl hlk
          rw [k1] at hlk
          cases hlk
          simp only [Blk.same] at k2
          subst k2
          obtain ⟨hs, h⟩ := h
          obtain ⟨l1, o1, g1, g2, g3⟩ := S3.heap.obj loopId _ k1 rfl
          rw [k3] at g1
          cases g1
          cases g3 with
          | loop _ _ _ _ r hr =>
            have hend := run_endLoop (P := P) g2 (by rw [hr.state]; exact hs)
            have hwr : Wr (w.heap.size + 1) w' (w'.putObj (w.heap.size + 1) (.loop { r with state := .exhausted })) :=
              ⟨rfl, rfl, rfl, by simp, fun k hk => World.putObj_heap_other hk⟩
            have x4 := Ext.wrote (w0 := w0) (X := fun b => ∃ i, φ0 i = some b) (blk := .loop lc .exhausted pd sl) S3.heap k3 hwr
              (.inr ⟨_, _, k1, rfl, World.putObj_heap_same (Array.getElem?_eq_some_iff.1 g2).1, .loop _ _ _ _ _ ⟨rfl, hr.pending, hr.params, hr.assign, hr.body, hr.size, hr.slots⟩⟩)
            have e5 : ((St.upd ⟨st.tmps, enterL lc st⟩ u).upd [(loopId, .loop lc .exhausted pd sl)]).lk = updL (St.upd ⟨st.tmps, enterL lc st⟩ u).lk loopId (.loop lc .exhausted pd sl) := lk_upd1 ..
            rw [← e5] at x4
            have S4 := S3.upd1 x4
            have S5 : Sim N L0 φ0 ok0 w0 ((St.upd ⟨st.tmps, enterL lc st⟩ u).upd [(loopId, .loop lc .exhausted pd sl)]) ok' φ' { a with defers := markOf w.heap.size ++ a.defers } (w'.putObj (w.heap.size + 1) (.loop { r with state := .exhausted })) := by
              refine ⟨S4.slots, S4.size, .inr ⟨w.heap.size, ?_, d3, by rw [hds]; simp⟩, S4.heap, S4.kept, S4.frame, S4.own, S4.okDn⟩
              rw [e5]
              simp only [updL]
              rw [if_neg (by decide), d1]
              cases bd <;> simp only [Blk.same] at d2
              rfl
            clear x4 S4 hwr e5
            generalize w'.putObj (w.heap.size + 1) (.loop { r with state := .exhausted }) = W4 at S5 hend
            rw [hr.pending] at hend
            refine ⟨pd, W4, hend, ?_⟩
            split at h
            · exact ⟨.normal, _, _, _, rfl, h, S5⟩
            · exact wpIn_ret ⟨.ret, _, _, _, rfl, h, S5⟩
            · exact wpIn_exit ⟨.exit _, _, _, _, rfl, h, S5⟩
            · exact h.elim
        · exact h.elim
    · exact h.elim
  · exact h.elim

theorem W_wp {F : Fence} {nn : Nat} (hF : Good F) (hm : P.follows .mixedOrders = true) (hC : TblOK P C) (hL0 : ∀ i, L0 i ≠ none → i < m) : ∀ (c : Code) (Q : Ex → St → Prop) (st : St) (ok : Nat → Nat → Prop) (φ : Nat → Option Nat) (a : Act) (w : World),
    (F = Fence.wide ∨ noRF c = true) → codeOK P N D c = true → (∀ e s t, StEq s t → Q e s → Q e t) → W P C wr D U m c st Q → Sim N L0 φ0 ok0 w0 st ok φ a w → c.wpIn F nn P (Post N L0 φ0 ok0 w0 Q) a w := by
  intro c
  induction c with
  | skip => intro Q st ok φ a w hN hc hQ h hS; exact wpIn_skip ⟨.normal, st, ok, φ, rfl, h, hS⟩
  | label l => intro Q st ok φ a w hN hc hQ h hS; exact wpIn_label ⟨.normal, st, ok, φ, rfl, h, hS⟩
  | scope b ih =>
    intro Q st ok φ a w hN hc hQ h hS
    simp only [W] at h
    simp only [codeOK] at hc
    refine wpIn_scope (fun l a w hp => ?_) (ih Q st ok φ a w (hN.imp (fun h => h) (fun h => by simpa only [noRF] using h)) hc hQ h hS)
    obtain ⟨e', _, _, _, he, _, _⟩ := hp
    cases e' <;> cases he
  | region id ops draw =>
    intro Q st ok φ a w hN hc hQ h hS
    simp only [W] at h
    simp only [codeOK, Bool.and_eq_true] at hc
    obtain ⟨hc, hdr⟩ := hc
    split at h
    · exact wpIn_region_list (Wops.wpList hF rfl hC ops.toList st ok φ a w hc h hS (fun st' ok' φ' a' w' hq hS' => ⟨.normal, st', ok', φ', rfl, hq, hS'⟩))
    · exact wp_drawn hF hm hC hc (by simpa using hdr) (fun s t he hs => hQ _ _ _ he hs) h hS (fun st' ok' φ' a' w' hq hS' => ⟨.normal, st', ok', φ', rfl, hq, hS'⟩)
  | seq x y ihx ihy =>
    intro Q st ok φ a w hN hc hQ h hS
    simp only [W] at h
    simp only [codeOK, Bool.and_eq_true] at hc
    split at h
    · refine wpIn_seq (wpIn_mono (ihx _ st ok φ a w (hN.imp (fun h => h) (fun h => by simp only [noRF, Bool.and_eq_true] at h; exact h.1)) hc.1 (fun e s t he hs => ?_) h hS) (fun e a' w' hp => ?_))
      · cases e with
        | normal => exact W_eq y _ hQ _ _ he hs
        | exit i => exact hQ _ _ _ he hs
        | ret => exact hQ _ _ _ he hs
      · obtain ⟨e', st', ok', φ', rfl, hq, hS'⟩ := hp
        cases e' with
        | normal => exact ihy Q st' ok' φ' a' w' (hN.imp (fun h => h) (fun h => by simp only [noRF, Bool.and_eq_true] at h; exact h.2)) hc.2 hQ hq hS'
        | exit i => exact ⟨.exit i, st', ok', φ', rfl, hq, hS'⟩
        | ret => exact ⟨.ret, st', ok', φ', rfl, hq, hS'⟩
    · obtain ⟨h, hk⟩ := h
      refine wpIn_seq (wpIn_mono (ihx _ st ok φ a w (hN.imp (fun h => h) (fun h => by simp only [noRF, Bool.and_eq_true] at h; exact h.1)) hc.1 (fun e s t he hs => ?_) h hS) (fun e a' w' hp => ?_))
      · cases e with
        | normal => obtain ⟨x, h1, h2⟩ := hs; exact ⟨x, h1.eq he, h2⟩
        | exit i => exact hQ _ _ _ he hs
        | ret => exact hQ _ _ _ he hs
      · obtain ⟨e', st', ok', φ', rfl, hq, hS'⟩ := hp
        cases e' with
        | normal =>
          obtain ⟨x, h1, h2⟩ := hq
          obtain ⟨ok2, φ2, hS2⟩ := hS'.weak hL0 h1.weak
          exact ihy Q _ ok2 φ2 a' w' (hN.imp (fun h => h) (fun h => by simp only [noRF, Bool.and_eq_true] at h; exact h.2)) hc.2 hQ (hk x h2) hS2
        | exit i => exact ⟨.exit i, st', ok', φ', rfl, hq, hS'⟩
        | ret => exact ⟨.ret, st', ok', φ', rfl, hq, hS'⟩
  | cond c t f iht ihf =>
    intro Q st ok φ a w hN hc hQ h hS
    simp only [W] at h
    simp only [codeOK, Bool.and_eq_true] at hc
    split at h
    · rename_i b hb
      have hv := (hS.ev c).un h.1
      rw [hb] at hv
      refine wpIn_cond_split hv.boolInv (fun e => ?_) (fun e => ?_)
      · exact iht Q st ok φ a w (hN.imp (fun h => h) (fun h => by simp only [noRF, Bool.and_eq_true] at h; exact h.1)) hc.1 hQ (h.2.1 e) hS
      · exact ihf Q st ok φ a w (hN.imp (fun h => h) (fun h => by simp only [noRF, Bool.and_eq_true] at h; exact h.2)) hc.2 hQ (h.2.2 e) hS
    · rename_i sz l hb
      have hv := (hS.ev c).un h.1
      rw [hb] at hv
      obtain ⟨b, hbv, hbl⟩ := hv.ownInv
      refine wpIn_cond_split hbv (fun e => ?_) (fun e => ?_)
      · exact iht Q st ok φ a w (hN.imp (fun h => h) (fun h => by simp only [noRF, Bool.and_eq_true] at h; exact h.1)) hc.1 hQ (h.2.1 (hbl e)) hS
      · exact ihf Q st ok φ a w (hN.imp (fun h => h) (fun h => by simp only [noRF, Bool.and_eq_true] at h; exact h.2)) hc.2 hQ h.2.2 hS
    · exact h.elim
  | block id b ih =>
    intro Q st ok φ a w hN hc hQ h hS
    simp only [W] at h
    simp only [codeOK] at hc
    refine wpIn_block (wpIn_mono (ih _ st ok φ a w (hN.imp (fun h => h) (fun h => by simpa only [noRF] using h)) hc (fun e s t he hs => ?_) h hS) (fun e a' w' hp => ?_))
    · cases e with
      | normal => exact hQ _ _ _ he hs
      | exit i =>
        by_cases hi : i = id
        · simp only [if_pos hi] at hs ⊢; exact hQ _ _ _ he hs
        · simp only [if_neg hi] at hs ⊢; exact hQ _ _ _ he hs
      | ret => exact hQ _ _ _ he hs
    · obtain ⟨e', st', ok', φ', rfl, hq, hS'⟩ := hp
      cases e' with
      | normal => exact ⟨.normal, st', ok', φ', rfl, hq, hS'⟩
      | exit i =>
        simp only [Ex.of, Exit.inBlock]
        by_cases hi : i = id
        · simp only [if_pos hi] at hq ⊢; exact ⟨.normal, st', ok', φ', rfl, hq, hS'⟩
        · simp only [if_neg hi] at hq ⊢; exact ⟨.exit i, st', ok', φ', rfl, hq, hS'⟩
      | ret => exact ⟨.ret, st', ok', φ', rfl, hq, hS'⟩
  | loop b ih =>
    intro Q st ok φ a w hN hc hQ h hS
    simp only [W] at h
    simp only [codeOK] at hc
    obtain ⟨n, hn⟩ := h
    -- the relation: so many rounds unrolled, or the invariant
    let I : Nat × Nat → Act → World → Prop := fun k a w => ∃ st ok φ, Sim N L0 φ0 ok0 w0 st ok φ a w ∧
      ((0 < k.1 ∧ unrollN (W P C wr D U m b) Q (InvL (W P C wr D U m b) m Q) k.1 st) ∨
       (k.1 = 0 ∧ ∃ (X : Type) (emb : X → St) (J : X → Prop) (μ : X → Nat) (x : X), Weak m st (emb x) ∧ J x ∧ k.2 = μ x ∧ ∀ x, J x → W P C wr D U m b (emb x) fun e st' => match e with
          | .normal => ∃ x', Weak m st' (emb x') ∧ J x' ∧ μ x' < μ x
          | e => Q e st'))
    have start : ∀ n st ok φ a w, unrollN (W P C wr D U m b) Q (InvL (W P C wr D U m b) m Q) n st → Sim N L0 φ0 ok0 w0 st ok φ a w → ∃ k, I (n, k) a w := by
      intro n st ok φ a w hn hS
      cases n with
      | zero =>
        obtain ⟨X, emb, J, μ, x0, h1, h2, h3⟩ := hn
        exact ⟨μ x0, st, ok, φ, hS, .inr ⟨rfl, X, emb, J, μ, x0, h1, h2, rfl, h3⟩⟩
      | succ n => exact ⟨0, st, ok, φ, hS, .inl ⟨Nat.succ_pos _, hn⟩⟩
    obtain ⟨k0, hk0⟩ := start n st ok φ a w hn hS
    refine wp_loop_rel I (n, k0) hk0 ?_
    rintro ⟨n, k⟩ a w ⟨st, ok, φ, hS, hI⟩
    rcases hI with ⟨hp, hu⟩ | ⟨hz, X, emb, J, μ, x, h1, h2, h4, h3⟩
    · obtain ⟨n, rfl⟩ : ∃ n', n = n' + 1 := ⟨n - 1, by simp only at hp; omega⟩
      simp only [unrollN] at hu
      refine wpIn_mono (ih _ st ok φ a w (hN.imp (fun h => h) (fun h => by simpa only [noRF] using h)) hc (fun e s t he hs => ?_) hu hS) (fun e a' w' hp => ?_)
      · cases e with
        | normal =>
          refine unrollN_eq (fun R hR s t he hr => W_eq b R hR s t he hr) hQ (fun s t he hs => ?_) n s t he hs
          obtain ⟨X, emb, I, μ, x0, h1, h2, h3⟩ := hs
          exact ⟨X, emb, I, μ, x0, h1.eq he, h2, h3⟩
        | exit i => exact hQ _ _ _ he hs
        | ret => exact hQ _ _ _ he hs
      · obtain ⟨e', st', ok2, φ2, rfl, hq, hS2⟩ := hp
        cases e' with
        | normal =>
          obtain ⟨k', hk'⟩ := start n st' ok2 φ2 a' w' hq hS2
          exact ⟨(n, k'), Prod.Lex.left _ _ (Nat.lt_succ_self n), hk'⟩
        | exit i => exact ⟨.exit i, st', ok2, φ2, rfl, hq, hS2⟩
        | ret => exact ⟨.ret, st', ok2, φ2, rfl, hq, hS2⟩
    · simp only at hz h4
      subst hz; subst h4
      obtain ⟨ok', φ', hS'⟩ := hS.weak hL0 h1
      refine wpIn_mono (ih _ (emb x) ok' φ' a w (hN.imp (fun h => h) (fun h => by simpa only [noRF] using h)) hc (fun e s t he hs => ?_) (h3 x h2) hS') (fun e a' w' hp => ?_)
      · cases e with
        | normal =>
          obtain ⟨x', g1, g2, g3⟩ := hs
          exact ⟨x', g1.eq he, g2, g3⟩
        | exit i => exact hQ _ _ _ he hs
        | ret => exact hQ _ _ _ he hs
      · obtain ⟨e', st', ok2, φ2, rfl, hq, hS2⟩ := hp
        cases e' with
        | normal =>
          obtain ⟨x', g1, g2, g3⟩ := hq
          exact ⟨(0, μ x'), Prod.Lex.right _ g3, st', ok2, φ2, hS2, .inr ⟨rfl, X, emb, J, μ, x', g1, g2, rfl, h3⟩⟩
        | exit i => exact ⟨.exit i, st', ok2, φ2, rfl, hq, hS2⟩
        | ret => exact ⟨.ret, st', ok2, φ2, rfl, hq, hS2⟩
  | exit i => intro Q st ok φ a w hN hc hQ h hS; exact wpIn_exit ⟨.exit i, st, ok, φ, rfl, h, hS⟩
  | ret => intro Q st ok φ a w hN hc hQ h hS; exact wpIn_ret ⟨.ret, st, ok, φ, rfl, h, hS⟩
  | rangeFunc g ps assign body _ _ =>
    intro Q st ok φ a w hN hc hQ h hS
    have hFw : F = Fence.wide := by
      rcases hN with h1 | h1
      · exact h1
      · simp [noRF] at h1
    simp only [codeOK, decide_eq_true_eq] at hc
    simp only [W] at h
    obtain ⟨st1, lc, hwk, rfl, rfl, rfl, hdn, h⟩ := h
    obtain ⟨ok1, φ1, hS1⟩ := hS.weak hL0 hwk
    exact WR1_wp hFw hC (by rw [hc] at hdn; simpa using hdn.symm) h hS1
  | _ => intro Q st ok φ a w hN hc hQ h hS; simp [W] at h
end
end Go.Abs
