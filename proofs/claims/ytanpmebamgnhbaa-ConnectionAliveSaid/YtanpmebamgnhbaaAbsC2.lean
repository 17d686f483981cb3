/- Equality of values that are no numbers. No condition. -/
import Derived.Test.YtanpmebamgnhbaaAbsC
import Derived.Laws.StructEq
set_option linter.unusedVariables false
set_option linter.unusedSimpArgs false
namespace Go.Abs

def eqInt : AV → AV → Option (Bool × Prop)
  | .int k a, .int k' b => if k = k' then some (decide (a = b), True) else none
  | _, _ => none
def eqBool : AV → AV → Option (Bool × Prop)
  | .bool a, .bool b => some (a == b, True)
  | _, _ => none
def eqStr : AV → AV → Option (Bool × Prop)
  | .str a, .str b => some (decide (a = b), True)
  | _, _ => none
def eqPtr : AV → AV → Option (Bool × Prop)
  | .nilp, .nilp => some (true, True)
  | .nilp, .ptr .. => some (false, True)
  | .ptr .., .nilp => some (false, True)
  | .nilp, .radr _ => some (false, True)
  | .radr _, .nilp => some (false, True)
  | _, _ => none
def eqSl : AV → AV → Option (Bool × Prop)
  | .nils, .nils => some (true, True)
  | _, _ => none
def eqFn : AV → AV → Option (Bool × Prop)
  | .nilf, .nilf => some (true, True)
  | .nilf, .clo .. => some (false, True)
  | .clo .., .nilf => some (false, True)
  | _, _ => none
/-- A part of a struct, by its field. -/
def fldA (P : Program) (xs : List AV) (f : Field) : Option (AV × Prop) :=
  match aggT P f.type, szT P f.type with
  | some false, some _ => some (xs.getD f.offset .any, f.offset < xs.length)
  | some true, some n => some (.agg ((xs.drop f.offset).take n), True)
  | _, _ => none
def evEqF (P : Program) (eq : TypeId → AV → AV → Option (Bool × Prop)) (xs ys : List AV) : List Field → Option (Bool × Prop)
  | [] => some (true, True)
  | f :: fs =>
    if f.name = "_" then evEqF P eq xs ys fs
    else match fldA P xs f, fldA P ys f with
      | some (a, p1), some (b, p2) => match eq f.type a b, evEqF P eq xs ys fs with
        | some (r, p), some (r', p') => some (r && r', p1 ∧ p2 ∧ p ∧ p')
        | _, _ => none
      | _, _ => none
def evEqS (P : Program) (eq : TypeId → AV → AV → Option (Bool × Prop)) (t : TypeId) (fs : List Field) : AV → AV → Option (Bool × Prop)
  | .agg xs, .agg ys => (evEqF P eq xs ys fs).map fun r => (r.1, r.2 ∧ P.stoodInHeld t = false)
  | _, _ => none
def evEq (P : Program) : Nat → TypeId → AV → AV → Option (Bool × Prop)
  | 0, _, _, _ => none
  | n + 1, t, x, y => match P.underlying t with
    | some .bool => eqBool x y
    | some (.int _) => eqInt x y
    | some .string => eqStr x y
    | some (.pointer _) => eqPtr x y
    | some (.slice _) => eqSl x y
    | some (.func ..) => eqFn x y
    | some (.struct fs) => evEqS P (evEq P n) t fs.toList x y
    | _ => none

theorem R.boolInv' {w ok L φ b v} (h : R w ok L φ (.bool b) v) : v = .bool b := by cases h with | pure _ _ h => cases h; rfl
theorem R.intInv' {w ok L φ k n v} (h : R w ok L φ (.int k n) v) : v = .int k n := by cases h with | pure _ _ h => cases h; rfl
theorem R.strInv' {w ok L φ s v} (h : R w ok L φ (.str s) v) : v = .string ⟨s.toArray⟩ := by cases h with | pure _ _ h => cases h; rfl

theorem fld_ok {P : Program} {w ok L φ} {xs : List AV} {vs : List Value} {f : Field} {a : AV} {p : Prop} (h : fldA P xs f = some (a, p)) (hp : p) (hl : vs.length = xs.length)
    (ho : ∀ (i : Nat) (v : Value), vs[i]? = some v → v.oneCell' = true) (hr : ∀ (i : Nat) (a : AV) (v : Value), xs[i]? = some a → vs[i]? = some v → R w ok L φ a v) :
    ∃ v, (part f.type vs.toArray f.offset).run P w = .ok v w ∧ R w ok L φ a v := by
  unfold fldA at h
  split at h <;> simp only [Option.some.injEq, reduceCtorEq, Prod.mk.injEq] at h
  · rename_i m hag hsz
    obtain ⟨rfl, rfl⟩ := h
    have hm : f.offset < vs.length := by omega
    refine ⟨vs[f.offset], ?_, ?_⟩
    · simp [part, run_isAgg' hag, List.getElem?_eq_getElem hm]
    · have : xs.getD f.offset .any = xs[f.offset] := by simp [List.getD_eq_getElem?_getD, List.getElem?_eq_getElem hp]
      rw [this]
      exact hr _ _ _ (List.getElem?_eq_getElem hp) (List.getElem?_eq_getElem hm)
  · rename_i n hag hsz
    obtain ⟨rfl, rfl⟩ := h
    refine ⟨.agg ((vs.drop f.offset).take n).toArray, ?_, R.aggSub hl ho hr _ _⟩
    simp [part, run_isAgg' hag, run_sizeOf' hsz, extract_toList']

theorem evEqF_ok {P : Program} {w ok L φ} {eq : TypeId → AV → AV → Option (Bool × Prop)} {d : Nat} (heq : ∀ t x y b p vx vy, eq t x y = some (b, p) → p → R w ok L φ x vx → R w ok L φ y vy → (Op.equalIn d t vx vy).run P w = .ok b w)
    {xs ys : List AV} {us vs : List Value} (hl : us.length = xs.length) (ho : ∀ (i : Nat) (v : Value), us[i]? = some v → v.oneCell' = true) (hr : ∀ (i : Nat) (a : AV) (v : Value), xs[i]? = some a → us[i]? = some v → R w ok L φ a v)
    (hl' : vs.length = ys.length) (ho' : ∀ (i : Nat) (v : Value), vs[i]? = some v → v.oneCell' = true) (hr' : ∀ (i : Nat) (a : AV) (v : Value), ys[i]? = some a → vs[i]? = some v → R w ok L φ a v) :
    ∀ (fs : List Field) (b : Bool) (p : Prop), evEqF P eq xs ys fs = some (b, p) → p → (Op.eqFields d us.toArray vs.toArray fs).run P w = .ok b w
  | [], b, p, h, hp => by
    simp only [evEqF, Option.some.injEq, Prod.mk.injEq] at h
    obtain ⟨rfl, _⟩ := h
    simp [Op.eqFields]
  | f :: fs, b, p, h, hp => by
    simp only [evEqF] at h
    by_cases hn : f.name = "_"
    · rw [if_pos hn] at h
      have := evEqF_ok heq hl ho hr hl' ho' hr' fs b p h hp
      simp [Op.eqFields, hn, this]
    · rw [if_neg hn] at h
      split at h <;> try (simp at h; done)
      rename_i a p1 c p2 h1 h2
      split at h <;> simp only [Option.some.injEq, reduceCtorEq, Prod.mk.injEq] at h
      rename_i r q r' q' h3 h4
      obtain ⟨rfl, rfl⟩ := h
      obtain ⟨g1, g2, g3, g4⟩ := hp
      obtain ⟨v1, k1, k2⟩ := fld_ok h1 g1 hl ho hr
      obtain ⟨v2, k3, k4⟩ := fld_ok h2 g2 hl' ho' hr'
      have k5 := heq _ _ _ _ _ _ _ h3 g3 k2 k4
      have k6 := evEqF_ok heq hl ho hr hl' ho' hr' fs r' q' h4 g4
      simp only [Op.eqFields, ne_eq, hn, not_false_eq_true, if_true, Sem.run_bind, k1, k3, k5, Result.andThen_ok]
      cases r
      · simp
      · simp [k6]

theorem evEq_ok {P : Program} {w ok L φ} : ∀ (n : Nat) (t : TypeId) (x y : AV) (b : Bool) (p : Prop) (vx vy : Value) (d : Nat), n ≤ d → evEq P n t x y = some (b, p) → p → R w ok L φ x vx → R w ok L φ y vy → (Op.equalIn d t vx vy).run P w = .ok b w
  | 0, t, x, y, b, p, vx, vy, d, _, h, _, _, _ => by simp [evEq] at h
  | n + 1, t, x, y, b, p, vx, vy, 0, hd, h, hp, hx, hy => by omega
  | n + 1, t, x, y, b, p, vx, vy, d + 1, hd, h, hp, hx, hy => by
    simp only [evEq] at h
    split at h
    · rename_i hu
      unfold eqBool at h
      split at h <;> simp only [Option.some.injEq, reduceCtorEq, Prod.mk.injEq] at h
      obtain ⟨rfl, _⟩ := h
      rw [hx.boolInv', hy.boolInv']
      simp [Op.equalIn, run_underlying hu]
    · rename_i k hu
      unfold eqInt at h
      split at h
      · split at h <;> simp only [Option.some.injEq, reduceCtorEq, Prod.mk.injEq] at h
        rename_i hk
        subst hk
        obtain ⟨rfl, _⟩ := h
        rw [hx.intInv', hy.intInv']
        simp [Op.equalIn, run_underlying hu]
        rw [Bool.eq_iff_iff]; simp
      · simp at h
    · rename_i hu
      unfold eqStr at h
      split at h <;> simp only [Option.some.injEq, reduceCtorEq, Prod.mk.injEq] at h
      obtain ⟨rfl, _⟩ := h
      rw [hx.strInv', hy.strInv']
      rename_i a c _
      have e : ((⟨a.toArray⟩ : ByteArray) == ⟨c.toArray⟩) = decide (a = c) := by
        rw [beq_toListBytes, ByteArray.toList_eq, ByteArray.toList_eq, Bool.eq_iff_iff]
        simp
      simp [Op.equalIn, run_underlying hu, e]
    · rename_i e hu
      unfold eqPtr at h
      split at h <;> simp only [Option.some.injEq, reduceCtorEq, Prod.mk.injEq] at h <;> obtain ⟨rfl, _⟩ := h
      · obtain rfl : vx = .pointer none := by cases hx with | pure _ _ h => cases h; rfl
        obtain rfl : vy = .pointer none := by cases hy with | pure _ _ h => cases h; rfl
        simp [Op.equalIn, run_underlying hu]
      · obtain rfl : vx = .pointer none := by cases hx with | pure _ _ h => cases h; rfl
        obtain ⟨pa, rfl⟩ : ∃ pa, vy = .pointer (some pa) := by cases hy with | pure _ _ h => cases h | ptr _ _ _ _ pa => exact ⟨pa, rfl⟩
        simp [Op.equalIn, run_underlying hu]
      · obtain rfl : vy = .pointer none := by cases hy with | pure _ _ h => cases h; rfl
        obtain ⟨pa, rfl⟩ : ∃ pa, vx = .pointer (some pa) := by cases hx with | pure _ _ h => cases h | ptr _ _ _ _ pa => exact ⟨pa, rfl⟩
        simp [Op.equalIn, run_underlying hu]
      · obtain rfl : vx = .pointer none := by cases hx with | pure _ _ h => cases h; rfl
        obtain ⟨pa, rfl⟩ : ∃ pa, vy = .pointer (some pa) := by cases hy with | pure _ _ h => cases h; exact ⟨_, rfl⟩
        simp [Op.equalIn, run_underlying hu]
      · obtain rfl : vy = .pointer none := by cases hy with | pure _ _ h => cases h; rfl
        obtain ⟨pa, rfl⟩ : ∃ pa, vx = .pointer (some pa) := by cases hx with | pure _ _ h => cases h; exact ⟨_, rfl⟩
        simp [Op.equalIn, run_underlying hu]
    · rename_i e hu
      unfold eqSl at h
      split at h <;> simp only [Option.some.injEq, reduceCtorEq, Prod.mk.injEq] at h
      obtain ⟨rfl, _⟩ := h
      obtain rfl : vx = .slice none 0 0 := by cases hx with | pure _ _ h => cases h; rfl
      obtain rfl : vy = .slice none 0 0 := by cases hy with | pure _ _ h => cases h; rfl
      simp [Op.equalIn, run_underlying hu]
    · rename_i e1 e2 e3 hu
      unfold eqFn at h
      split at h <;> simp only [Option.some.injEq, reduceCtorEq, Prod.mk.injEq] at h <;> obtain ⟨rfl, _⟩ := h
      · obtain rfl : vx = .nilFunc := by cases hx with | pure _ _ h => cases h; rfl
        obtain rfl : vy = .nilFunc := by cases hy with | pure _ _ h => cases h; rfl
        simp [Op.equalIn, run_underlying hu]
      · obtain rfl : vx = .nilFunc := by cases hx with | pure _ _ h => cases h; rfl
        obtain ⟨f, a, c, rfl⟩ : ∃ f a c, vy = .func f a c := by
          cases hy with
          | pure _ _ h => cases h; exact ⟨_, _, _, rfl⟩
          | clo f k cs vs => exact ⟨_, _, _, rfl⟩
        simp [Op.equalIn, run_underlying hu]
      · obtain rfl : vy = .nilFunc := by cases hy with | pure _ _ h => cases h; rfl
        obtain ⟨f, a, c, rfl⟩ : ∃ f a c, vx = .func f a c := by
          cases hx with
          | pure _ _ h => cases h; exact ⟨_, _, _, rfl⟩
          | clo f k cs vs => exact ⟨_, _, _, rfl⟩
        simp [Op.equalIn, run_underlying hu]
    · rename_i fs hu
      unfold evEqS at h
      split at h <;> try (simp at h; done)
      rename_i xs ys
      simp only [Option.map_eq_some_iff, Prod.mk.injEq] at h
      obtain ⟨⟨r, q⟩, h1, rfl, rfl⟩ := h
      obtain ⟨us, rfl, hl, ho, hr⟩ := hx.aggInv
      obtain ⟨vs, rfl, hl', ho', hr'⟩ := hy.aggInv
      have hf : P.fieldsOf t = fs := by simp [Program.fieldsOf, hu]
      rw [run_equalIn_struct w d t us.toArray vs.toArray (by rw [hf]; exact hu) hp.2, hf]
      exact evEqF_ok (eq := evEq P n) (d := d) (fun t x y b p vx vy h hp hx hy => evEq_ok n t x y b p vx vy d (by omega) h hp hx hy) hl ho hr hl' ho' hr' fs.toList r q h1 hp.1
    · simp at h

def evEqOp (P : Program) (op : BinOp) (t : TypeId) (x y : AV) : Option (AV × Prop) :=
  match op with
  | .eql => (evEq P 8 t x y).map fun r => (.bool r.1, r.2 ∧ P.eqGuardType P.depth t = false)
  | .neq => (evEq P 8 t x y).map fun r => (.bool (!r.1), r.2 ∧ P.eqGuardType P.depth t = false)
  | _ => none
/-- Neither number nor text. -/
def otherA : AV → Bool
  | .agg _ | .ptr .. | .nilp | .radr _ | .nils | .nilf | .clo .. => true
  | _ => false
def evEqO (P : Program) (op : BinOp) (t : TypeId) (x y : AV) : Bool → Option (AV × Prop)
  | true => evEqOp P op t x y
  | false => none
def evEqB (P : Program) (op : BinOp) (t : TypeId) (x y : AV) : Option (AV × Prop) :=
  evEqO P op t x y (otherA x)

theorem other_bin {P : Program} {w ok L φ} {op : BinOp} {t : TypeId} {x : AV} {vx vy : Value} {ox oy : Operand} (ho : otherA x = true) (hx : R w ok L φ x vx) (hg : P.eqGuardType P.depth t = false) (heq : op = .eql ∨ op = .neq) :
    ((do eqGuard op t ox oy vx vy; binOp op t vx vy) : Sem Value).run P w = ((Op.equal t vx vy).run P w).andThen fun b w' => .ok (.bool (match op with | .eql => b | _ => !b)) w' := by
  have key : (∃ xs, vx = .agg xs) ∨ (∃ a, vx = .pointer a) ∨ (∃ a n m, vx = .slice a n m) ∨ vx = .nilFunc ∨ (∃ f a c, vx = .func f a c) := by
    cases hx with
    | pure _ _ h => cases h <;> simp [otherA] at ho <;> simp
    | ref => simp
    | ptr => simp
    | it => simp
    | yld => simp
    | agg => simp
    | tuple => simp [otherA] at ho
    | clo => simp
    | condT => simp [otherA] at ho
  rcases key with ⟨xs, rfl⟩ | ⟨a, rfl⟩ | ⟨a, n, m, rfl⟩ | rfl | ⟨f, a, c, rfl⟩
  · have hgd : ∀ vy, (eqGuard op t ox oy (.agg xs) vy).run P w = .ok () w := by
      intro vy
      cases vy <;> rcases heq with rfl | rfl <;> simp [eqGuard, run_program, hg]
    rw [Sem.run_bind, hgd, Result.andThen_ok]
    rcases heq with rfl | rfl <;> cases vy <;> simp [binOp]
  all_goals
    rw [Sem.run_bind]
    rcases heq with rfl | rfl <;> cases vy <;> simp [eqGuard, binOp]

theorem evEqB_ok {P op t x y v' p w ok L φ vx vy ox oy} (h : evEqB P op t x y = some (v', p)) (hp : p) (hx : R w ok L φ x vx) (hy : R w ok L φ y vy) :
    ∃ v, ((do eqGuard op t ox oy vx vy; binOp op t vx vy) : Sem Value).run P w = .ok v w ∧ R w ok L φ v' v := by
  unfold evEqB at h
  cases ho : otherA x with
  | true =>
    rw [ho] at h
    simp only [evEqO] at h
    unfold evEqOp at h
    split at h
    · simp only [Option.map_eq_some_iff, Prod.mk.injEq] at h
      obtain ⟨⟨r, q⟩, h1, rfl, rfl⟩ := h
      refine ⟨_, ?_, .pure _ _ (.bool r)⟩
      rw [other_bin ho hx hp.2 (.inl rfl)]
      have := evEq_ok (P := P) 8 t x y r q vx vy Op.maxDepth (by decide) h1 hp.1 hx hy
      simp only [Op.equal, this, Result.andThen_ok]
    · simp only [Option.map_eq_some_iff, Prod.mk.injEq] at h
      obtain ⟨⟨r, q⟩, h1, rfl, rfl⟩ := h
      refine ⟨_, ?_, .pure _ _ (.bool (!r))⟩
      rw [other_bin ho hx hp.2 (.inr rfl)]
      have := evEq_ok (P := P) 8 t x y r q vx vy Op.maxDepth (by decide) h1 hp.1 hx hy
      simp only [Op.equal, this, Result.andThen_ok]
    · simp at h
  | false => rw [ho] at h; simp [evEqO] at h

/-- A slice that is read, beside nil: what the comparison says is open where the slice is empty. -/
def evOwn (P : Program) (t : TypeId) (sz : Nat) (l : List AV) : AV → BinOp → Option (AV × Prop)
  | .nils, .eql => match P.underlying t with
    | some (.slice _) => some (.own sz l, True)
    | _ => none
  | _, _ => none
def listA : AV → Option (Nat × List AV)
  | .list sz l => some (sz, l)
  | _ => none
def evBinN (P : Program) (wr : Bool) (op : BinOp) (t : TypeId) (x y : AV) : Option (Nat × List AV) → Option (AV × Prop)
  | some (sz, l) => evOwn P t sz l y op
  | none => evBin P wr op t x y
theorem evBinN_ok {P wr op t x y v' p w ok L φ vx vy ox oy} (h : evBinN P wr op t x y (listA x) = some (v', p)) (hp : p) (hx : R w ok L φ x vx) (hy : R w ok L φ y vy) :
    ∃ v, ((do eqGuard op t ox oy vx vy; binOp op t vx vy) : Sem Value).run P w = .ok v w ∧ R w ok L φ v' v := by
  cases x with
  | list sz l =>
    simp only [listA, evBinN] at h
    unfold evOwn at h
    split at h
    · split at h
      · rename_i e hu
        simp only [Option.some.injEq, Prod.mk.injEq] at h
        obtain ⟨rfl, _⟩ := h
        obtain rfl : vy = .slice none 0 0 := by cases hy with | pure _ _ h => cases h; rfl
        have key : ∃ a n c, vx = .slice a n c ∧ (a.isNone = true → l = []) := by
          cases hx with
          | pure _ _ h => cases h with
            | list0 _ a cap hm => exact ⟨a, 0, cap, rfl, fun _ => rfl⟩
            | list _ _ b off cap => exact ⟨_, _, _, rfl, fun h => by simp at h⟩
        obtain ⟨a, n, c, rfl, hn⟩ := key
        refine ⟨.bool a.isNone, ?_, .pure _ _ (.own sz l _ hn)⟩
        have k : ∀ d, (Op.equalIn (d + 1) t (.slice a n c) (.slice none 0 0)).run P w = .ok a.isNone w := fun d => by cases a <;> simp [Op.equalIn, run_underlying hu]
        have k2 : (Op.equal t (.slice a n c) (.slice none 0 0)).run P w = .ok a.isNone w := k 9999
        simp [eqGuard, binOp, k2]
      · simp at h
    · simp at h
  | _ => simp only [listA, evBinN] at h; exact evBin_ok h hp hx hy
/-- Numbers, texts and Bools; then all else. -/
def evBinS (P : Program) (wr : Bool) (op : BinOp) (t : TypeId) (x y : AV) : Bool → Option (AV × Prop)
  | true => evEqB P op t x y
  | false => evBinN P wr op t x y (listA x)
def evBinX (P : Program) (wr : Bool) (op : BinOp) (t : TypeId) (x y : AV) : Option (AV × Prop) := evBinS P wr op t x y (otherA x)
theorem evBinX_ok {P wr op t x y v' p w ok L φ vx vy ox oy} (h : evBinX P wr op t x y = some (v', p)) (hp : p) (hx : R w ok L φ x vx) (hy : R w ok L φ y vy) :
    ∃ v, ((do eqGuard op t ox oy vx vy; binOp op t vx vy) : Sem Value).run P w = .ok v w ∧ R w ok L φ v' v := by
  unfold evBinX at h
  cases ho : otherA x with
  | true => rw [ho] at h; exact evEqB_ok h hp hx hy
  | false => rw [ho] at h; exact evBinN_ok h hp hx hy
end Go.Abs
