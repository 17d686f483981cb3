/- Forgetting, in a form that computes. No condition. -/
import Derived.Test.YtanpmebamgnhbaaAbsO
set_option linter.unusedVariables false
set_option linter.unusedSimpArgs false
namespace Go.Abs

/-- A slot may be told in other words: a form that computes. -/
def slotE (L L' : Nat → Option Blk) (v v' : AV) : Prop :=
  match v' with
  | .int k' n' => match v with | .int k n => k = k' ∧ n = n' | _ => False
  | .bool b' => match v with | .bool b => b = b' | _ => False
  | .str s' => match v with | .str s => s = s' | _ => False
  | .list sz' l' => match v with
    | .list sz l => sz = sz' ∧ l = l'
    | .nils => l' = []
    | .nil0 => l' = []
    | .ref id off len hw => match L id, L' id with
      | some (.cells sz _ _ c), none => sz = sz' ∧ (c.drop off).take len = l' ∧ hw = c.length ∧ pureEl c = true
      | _, _ => False
    | _ => False
  | .ref id' off' len' hw' => match v with
    | .ref id off len hw => id = id' ∧ off = off' ∧ len = len' ∧ hw = hw' ∧ L' id' ≠ none
    | .nils => off' = 0 ∧ len' = 0 ∧ hw' = 0 ∧ (match L id', L' id' with | none, some (.cells _ ro _ c) => ro = false ∧ c = [] | _, _ => False)
    | .nil0 => off' = 0 ∧ len' = 0 ∧ hw' = 0 ∧ (match L id', L' id' with | none, some (.cells _ ro _ c) => ro = false ∧ c = [] | _, _ => False)
    | _ => False
  | .any => True
  | v' => v = v' ∧ idsOK L' v'

theorem slotE_ok {L L' : Nat → Option Blk} {v v' : AV} (h : slotE L L' v v') : v' = .any ∨ slotOK L L' v v' := by
  cases v' <;> simp only [slotE] at h
  case any => exact .inl rfl
  case int k' n' =>
    cases v <;> simp only at h
    exact .inr (.inl ⟨by rw [h.1, h.2], trivial⟩)
  case bool b' =>
    cases v <;> simp only at h
    exact .inr (.inl ⟨by rw [h], trivial⟩)
  case str b' =>
    cases v <;> simp only at h
    exact .inr (.inl ⟨by rw [h], trivial⟩)
  case list sz' l' =>
    cases v <;> simp only at h
    case list sz l => exact .inr (.inl ⟨by rw [h.1, h.2], trivial⟩)
    case nils => exact .inr (.inr (.inr (.inr ⟨sz', .inl rfl, by rw [h]⟩)))
    case nil0 => exact .inr (.inr (.inr (.inr ⟨sz', .inr rfl, by rw [h]⟩)))
    case ref id off len hw =>
      split at h
      · rename_i sz ro d c h1 h2
        obtain ⟨rfl, rfl, h3, h4⟩ := h
        exact .inr (.inr (.inr (.inl ⟨id, off, len, hw, sz, ro, d, c, rfl, h1, h2, h3, h4, rfl⟩)))
      · exact h.elim
  case ref id' off' len' hw' =>
    cases v <;> simp only at h
    case ref id off len hw =>
      obtain ⟨rfl, rfl, rfl, rfl, h5⟩ := h
      exact .inr (.inl ⟨rfl, h5⟩)
    case nils =>
      obtain ⟨rfl, rfl, rfl, h4⟩ := h
      split at h4
      · rename_i sz ro d c h1 h2
        obtain ⟨rfl, rfl⟩ := h4
        exact .inr (.inr (.inl ⟨id', sz, d, .inl rfl, rfl, h1, h2⟩))
      · exact h4.elim
    case nil0 =>
      obtain ⟨rfl, rfl, rfl, h4⟩ := h
      split at h4
      · rename_i sz ro d c h1 h2
        obtain ⟨rfl, rfl⟩ := h4
        exact .inr (.inr (.inl ⟨id', sz, d, .inr rfl, rfl, h1, h2⟩))
      · exact h4.elim
  all_goals exact .inr (.inl ⟨h.1, h.2⟩)

/-! ### a form of forgetting that computes -/
def subTE (st : St) (L' : Nat → Option Blk) : List (Nat × AV) → Prop
  | [] => True
  | (t, v') :: r => slotE st.lk L' (st.get t) v' ∧ subTE st L' r
def noAnyT : List (Nat × AV) → Bool
  | [] => true
  | (_, .any) :: _ => false
  | _ :: r => noAnyT r
theorem subTE_ok {st : St} {L' : Nat → Option Blk} : ∀ {l : List (Nat × AV)}, noAnyT l = true → subTE st L' l → subT st L' l
  | [], _, _ => trivial
  | (t, v') :: r, hn, h => by
    have h1 : v' ≠ .any := fun e => by subst e; simp [noAnyT] at hn
    have h2 : noAnyT r = true := by cases v' <;> first | exact hn | exact absurd rfl h1
    rcases slotE_ok h.1 with h3 | h3
    · exact absurd h3 h1
    · exact ⟨h3, subTE_ok h2 h.2⟩

/-- A single reference: a form that computes. -/
def refOf : AV → Option AV
  | .ref a b c d => some (.ref a b c d)
  | .any => none
  | .bool _ => none
  | .int .. => none
  | .str _ => none
  | .agg _ => none
  | .tuple _ => none
  | .list .. => none
  | .own .. => none
  | .radr _ => none
  | .nils => none
  | .nil0 => none
  | .nilp => none
  | .nili => none
  | .nilf => none
  | .yld _ => none
  | .ptr .. => none
  | .it _ => none
  | .nxt .. => none
  | .clo .. => none
  | .cond .. => none
theorem refOf_any  : refOf (.any ) = none := rfl
theorem refOf_bool (b : Bool) : refOf (.bool b) = none := rfl
theorem refOf_int (k : IntKind) (n : Int) : refOf (.int k n) = none := rfl
theorem refOf_str (s : List UInt8) : refOf (.str s) = none := rfl
theorem refOf_agg (c : List AV) : refOf (.agg c) = none := rfl
theorem refOf_tuple (c : List AV) : refOf (.tuple c) = none := rfl
theorem refOf_list (n : Nat) (l : List AV) : refOf (.list n l) = none := rfl
theorem refOf_nils  : refOf (.nils ) = none := rfl
theorem refOf_nil0  : refOf (.nil0 ) = none := rfl
theorem refOf_nilp  : refOf (.nilp ) = none := rfl
theorem refOf_nili  : refOf (.nili ) = none := rfl
theorem refOf_nilf  : refOf (.nilf ) = none := rfl
theorem refOf_yld (i : Nat) : refOf (.yld i) = none := rfl
theorem refOf_ptr (a b c d : Nat) : refOf (.ptr a b c d) = none := rfl
theorem refOf_it (i : Nat) : refOf (.it i) = none := rfl
theorem refOf_clo (f : FuncId) (k : Nat) (l : List AV) : refOf (.clo f k l) = none := rfl
theorem refOf_cond (e : Bool) (v : AV) : refOf (.cond e v) = none := rfl
theorem refOf_radr (c : List AV) : refOf (.radr c) = none := rfl
theorem refOf_ref (a b c d : Nat) : refOf (.ref a b c d) = some (.ref a b c d) := rfl
theorem refOf_some {v x : AV} (h : refOf v = some x) : x = v ∧ ∃ a b c d, v = .ref a b c d := by
  cases v <;> simp only [refOf, Option.some.injEq, reduceCtorEq] at h
  exact ⟨h.symm, _, _, _, _, rfl⟩
def oneRef2 : List AV → Option AV → Option AV
  | [], o => o
  | _ :: _, _ => none
def oneRef : List AV → Option AV
  | [] => none
  | a :: r => oneRef2 r (refOf a)
theorem oneRef2_none (r : List AV) : oneRef2 r none = none := by cases r <;> rfl
theorem oneRef_some {l : List AV} {x : AV} (h : oneRef l = some x) : l = [x] ∧ ∃ a b c d, x = .ref a b c d := by
  cases l with
  | nil => cases h
  | cons a r =>
    cases r with
    | nil =>
      obtain ⟨rfl, h2⟩ := refOf_some (show refOf a = some x from h)
      exact ⟨rfl, h2⟩
    | cons b t => cases h
theorem oneRef_map {α : Type} {f : α → AV} (h : ∀ x, refOf (f x) = none) (l : List α) : oneRef (l.map f) = none := by
  cases l with
  | nil => rfl
  | cons a r => show oneRef2 _ (refOf (f a)) = none; rw [h, oneRef2_none]
theorem oneRef_append {α : Type} {f : α → AV} (h : ∀ x, refOf (f x) = none) (l : List α) (b : List AV) (hb : oneRef b = none) : oneRef (l.map f ++ b) = none := by
  cases l with
  | nil => exact hb
  | cons a r => show oneRef2 _ (refOf (f a)) = none; rw [h, oneRef2_none]
theorem oneRef_replicate (n : Nat) (v : AV) (h : refOf v = none) : oneRef (List.replicate n v) = none := by
  cases n with
  | zero => rfl
  | succ n => show oneRef2 _ (refOf v) = none; rw [h, oneRef2_none]
/-- A block's contents in other words: a form that computes. -/
def refE (L L' : Nat → Option Blk) : List AV → AV → Prop
  | [y], v => slotE L L' y v
  | _, _ => False
def contX (L L' : Nat → Option Blk) (c c' : List AV) : Option AV → Prop
  | some v => refE L L' c v
  | none => c = c' ∧ contOK L' c'
def contE (L L' : Nat → Option Blk) (c c' : List AV) : Prop := contX L L' c c' (oneRef c')
theorem oneRef_nil : oneRef [] = none := rfl
theorem oneRef_cons (a : AV) (r : List AV) : oneRef (a :: r) = oneRef2 r (refOf a) := rfl
theorem oneRef2_nil (o : Option AV) : oneRef2 [] o = o := rfl
theorem contX_some {L L' : Nat → Option Blk} {c c' : List AV} {v : AV} : contX L L' c c' (some v) = refE L L' c v := rfl
theorem contX_none {L L' : Nat → Option Blk} {c c' : List AV} : contX L L' c c' none = (c = c' ∧ contOK L' c') := rfl
theorem refE_one {L L' : Nat → Option Blk} {y v : AV} : refE L L' [y] v = slotE L L' y v := rfl
theorem contE_ok {L L' : Nat → Option Blk} {c c' : List AV} (h : contE L L' c c') : (c = c' ∧ contOK L' c') ∨ contS L L' c c' := by
  unfold contE at h
  cases ho : oneRef c' with
  | none => rw [ho] at h; exact .inl h
  | some v =>
    rw [ho] at h
    obtain ⟨rfl, id', off', len', hw', rfl⟩ := oneRef_some ho
    simp only [contX] at h
    match c, h with
    | [y], h =>
      right
      simp only [refE] at h
      have hy : y.cells = [y] := by
        cases y <;> first | rfl | (simp only [slotE] at h)
      refine ⟨rfl, fun i x x' hx hx' => ?_⟩
      cases i with
      | succ i => simp at hx
      | zero =>
        simp at hx hx'
        subst hx; subst hx'
        refine ⟨by rw [hy]; rfl, fun j z z' hz hz' => ?_⟩
        cases j with
        | succ j => simp [AV.cells] at hz'
        | zero =>
          simp [AV.cells] at hz'
          subst hz'
          rw [hy] at hz
          simp at hz
          subst hz
          rcases slotE_ok h with h1 | h1
          · cases h1
          · exact h1
def blkE (L : Nat → Option Blk) (o : Option Blk) (L' : Nat → Option Blk) (b' : Blk) : Prop :=
  match b' with
  | .cells sz' ro' d' c' => match o with
    | some (.cells sz ro d c) => sz = sz' ∧ ro = ro' ∧ d = d' ∧ contE L L' c c'
    | none => ro' = false ∧ c' = []
    | _ => False
  | .iter s' p' => match o with
    | some (.iter s p) => s = s' ∧ p = p'
    | _ => False
  | .loop lc' st' pd' sl' => match o with
    | some (.loop lc st pd sl) => lc = lc' ∧ st = st' ∧ pd = pd' ∧ sl = sl' ∧ idsOKS L' sl'
    | _ => False
  | .defer => match o with
    | some .defer => True
    | _ => False
def subBE (L L' : Nat → Option Blk) : List (Nat × Blk) → Prop
  | [] => True
  | (id, b) :: r => blkE L (L id) L' b ∧ subBE L L' r
theorem subBE_ok {L L' : Nat → Option Blk} : ∀ {l : List (Nat × Blk)}, subBE L L' l → subB L L' l
  | [], _ => trivial
  | (id, b) :: r, h => by
    refine ⟨?_, subBE_ok h.2⟩
    have h1 := h.1
    unfold blkE at h1
    cases b with
    | cells sz' ro' d' c' =>
      simp only at h1
      split at h1
      · rename_i e
        obtain ⟨rfl, rfl, rfl, h2⟩ := h1
        rcases contE_ok h2 with ⟨rfl, h3⟩ | h3
        · exact .inl ⟨e, h3⟩
        · exact .inr (.inr ⟨_, _, _, _, _, e, rfl, h3⟩)
      · rename_i e
        obtain ⟨rfl, rfl⟩ := h1
        exact .inr (.inl ⟨e, _, _, rfl⟩)
      · exact h1.elim
    | iter s' p' =>
      simp only at h1
      split at h1
      · rename_i e
        obtain ⟨rfl, rfl⟩ := h1
        exact .inl ⟨e, trivial⟩
      · exact h1.elim
    | loop lc' st' pd' sl' =>
      simp only at h1
      split at h1
      · rename_i e
        obtain ⟨rfl, rfl, rfl, rfl, h2⟩ := h1
        exact .inl ⟨e, h2⟩
      · exact h1.elim
    | defer =>
      simp only at h1
      split at h1
      · rename_i e
        exact .inl ⟨e, trivial⟩
      · exact h1.elim

def WeakE (m : Nat) (st st' : St) : Prop := noAnyT st'.tmps = true ∧ subTE st st'.lk st'.tmps ∧ subBE st.lk st'.lk st'.L ∧ extsOK st.lk st'.lk m
theorem WeakE.weak {m : Nat} {st st' : St} (h : WeakE m st st') : Weak m st st' := ⟨subTE_ok h.1 h.2.1, subBE_ok h.2.2.1, h.2.2.2⟩


theorem subTE_eq {s t : St} {L' : Nat → Option Blk} (he : StEq s t) : ∀ {l : List (Nat × AV)}, subTE s L' l → subTE t L' l
  | [], _ => trivial
  | (k, v) :: r, h => ⟨by have := h.1; rw [he.1, he.2] at this; exact this, subTE_eq he h.2⟩
theorem WeakE.eq {m : Nat} {s t x : St} (h : WeakE m s x) (he : StEq s t) : WeakE m t x :=
  ⟨h.1, subTE_eq he h.2.1, by rw [← he.2]; exact h.2.2.1, by rw [← he.2]; exact h.2.2.2⟩
end Go.Abs
