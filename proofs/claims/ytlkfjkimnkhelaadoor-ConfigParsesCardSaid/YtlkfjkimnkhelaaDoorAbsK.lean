/- Contracts, and calls by contract. No condition. -/
import Derived.Test.YtlkfjkimnkhelaaDoorAbsI2
set_option linter.unusedVariables false
set_option linter.unusedSimpArgs false
namespace Go.Abs

/-! ### values that hang on no block of one's own -/
mutual
def AV.pureB : AV → Bool
  | .ref .. | .ptr .. | .it _ | .yld _ | .own .. => false
  | .agg cs | .tuple cs | .clo _ _ cs => pureBL cs
  | .cond _ v => v.pureB
  | _ => true
def pureBL : List AV → Bool
  | [] => true
  | a :: r => a.pureB && pureBL r
end

theorem pureBL_iff {l : List AV} : pureBL l = true ↔ ∀ (i : Nat) (a : AV), l[i]? = some a → a.pureB = true := by
  induction l with
  | nil => simp [pureBL]
  | cons a l ih =>
    simp only [pureBL, Bool.and_eq_true, ih]
    constructor
    · rintro ⟨h1, h2⟩ i b hb
      cases i with
      | zero => simp at hb; subst hb; exact h1
      | succ i => exact h2 i b (by simpa using hb)
    · intro h
      exact ⟨h 0 a rfl, fun i b hb => h (i + 1) b (by simpa using hb)⟩

theorem R.toRp {w ok L φ a v} (h : R w ok L φ a v) (hp : a.pureB = true) : Rp w ok a v := by
  induction h with
  | pure a v h => exact h
  | ref => simp [AV.pureB] at hp
  | ptr => simp [AV.pureB] at hp
  | it => simp [AV.pureB] at hp
  | yld => simp [AV.pureB] at hp
  | agg cs vs hl h1 h ih =>
    simp only [AV.pureB, pureBL_iff] at hp
    exact .agg cs vs hl h1 (fun i a v ha hv => ih i a v ha hv (hp i a ha))
  | tuple cs vs hl h ih =>
    simp only [AV.pureB, pureBL_iff] at hp
    exact .tuple cs vs hl (fun i a v ha hv => ih i a v ha hv (hp i a ha))
  | clo f k cs vs hl h ih =>
    simp only [AV.pureB, pureBL_iff] at hp
    exact .clo f k cs vs hl (fun i a v ha hv => ih i a v ha hv (hp i a ha))
  | condT a v h ih => exact .condT a v (ih (by simpa [AV.pureB] using hp))

/-- The cells of all elements hang on no block of one's own. -/
def pureEl (c : List AV) : Bool := c.all fun x => pureBL x.cells

/-- The cells of the one element. -/
def cel1 (c : List AV) : List AV := (c.getD 0 .any).cells
theorem cel1_one (x : AV) : cel1 [x] = x.cells := rfl

/- A slice of one's own, seen as a list that nobody writes. -/
mutual
def purA (L : Nat → Option Blk) : AV → Option (AV × List Nat × Prop)
  | .ref id off len hw => match L id with
    | some (.cells sz _ _ c) => some (.list sz ((c.drop off).take len), [id], hw = c.length ∧ pureEl c = true)
    | _ => none
  | .agg cs => match purL L cs with
    | some (cs', ids, q) => some (.agg cs', ids, q)
    | none => none
  | .tuple cs => match purL L cs with
    | some (cs', ids, q) => some (.tuple cs', ids, q)
    | none => none
  | .any => some (.any, [], True)
  | .bool b => some (.bool b, [], True)
  | .int k n => some (.int k n, [], True)
  | .str s => some (.str s, [], True)
  | .list sz l => some (.list sz l, [], True)
  | .radr l => some (.radr l, [], True)
  | .nils => some (.nils, [], True)
  | .nil0 => some (.nil0, [], True)
  | .nilp => some (.nilp, [], True)
  | .nili => some (.nili, [], True)
  | .nilf => some (.nilf, [], True)
  | .clo f k cs => match purL L cs with
    | some (cs', ids, q) => some (.clo f k cs', ids, q)
    | none => none
  | .ptr id i j hw => if i = 0 ∧ j = 0 ∧ hw = 1 then (match L id with
    | some (.cells _ _ _ c) => some (.radr (cel1 c), [id], pureBL (cel1 c) = true ∧ c.length = 1)
    | _ => none) else none
  | _ => none
def purL (L : Nat → Option Blk) : List AV → Option (List AV × List Nat × Prop)
  | [] => some ([], [], True)
  | a :: r => match purA L a, purL L r with
    | some (a', i, q), some (r', j, s) => some (a' :: r', i ++ j, q ∧ s)
    | _, _ => none
end

/-- The cells that are seen through the blocks of ids. -/
def Seen (L : Nat → Option Blk) (φ : Nat → Option Nat) (ids : List Nat) (b o : Nat) : Prop :=
  ∃ id ∈ ids, φ id = some b ∧ ∃ sz ro d c, L id = some (.cells sz ro d c) ∧ o < c.length * sz

theorem pureEl_iff {c : List AV} : pureEl c = true ↔ ∀ (i : Nat) (x : AV), c[i]? = some x → pureBL x.cells = true := by
  simp only [pureEl, List.all_eq_true]
  constructor
  · intro h i x hx; exact h x (List.mem_of_getElem? hx)
  · intro h x hx
    obtain ⟨i, hi, rfl⟩ := List.mem_iff_getElem.1 hx
    exact h i _ (List.getElem?_eq_getElem hi)

theorem Rp.of_re {w ok okv sz b off cap l vs} (L : Nat → Option Blk) (φ : Nat → Option Nat) (hre : RE w ok L φ sz l vs) (hok : ∀ b o, ok b o → okv b o) (hp : pureEl l = true)
    (hcell : ∀ (j : Nat) (u : Value), vs[j]? = some u → okv b (off + j) ∧ w.cell? ⟨b, off + j, none⟩ = some u) (hcap : l.length ≤ cap) (hm : cap ≤ maxLen) :
    Rp w okv (.list sz l) (.slice (some ⟨b, off, none⟩) l.length cap) := by
  have key : ∀ (i : Nat) (x : AV) (j : Nat) (y : AV), l[i]? = some x → x.cells[j]? = some y → ∃ v, vs[i * sz + j]? = some v ∧ v.oneCell' = true ∧ Rp w okv y v := by
    intro i x j y hx hy
    obtain ⟨v, h1, h2, h3⟩ := hre.2.2 i x j y hx hy
    exact ⟨v, h1, h2, (h3.toRp (pureBL_iff.1 (pureEl_iff.1 hp i x hx) j y hy)).mono hok (fun _ _ _ => rfl)⟩
  refine .list sz l b off cap (fun i j => vs.getD (i * sz + j) (.bool false)) hcap hm hre.2.1 (fun i x j y hx hy => ?_) (fun i x j y hx hy => ?_)
  · obtain ⟨v, h1, h2, _⟩ := key i x j y hx hy
    obtain ⟨h4, h5⟩ := hcell _ _ h1
    have : vs.getD (i * sz + j) (.bool false) = v := by simp [List.getD_eq_getElem?_getD, h1]
    rw [this, Nat.add_assoc]
    exact ⟨h4, h5, h2⟩
  · obtain ⟨v, h1, _, h3⟩ := key i x j y hx hy
    have : vs.getD (i * sz + j) (.bool false) = v := by simp [List.getD_eq_getElem?_getD, h1]
    rw [this]; exact h3

theorem RE.mem_sub {c : List AV} {o n : Nat} (h : pureEl c = true) : pureEl ((c.drop o).take n) = true := by
  rw [pureEl_iff] at h ⊢
  intro i x hx
  rw [List.getElem?_take] at hx
  split at hx
  · rw [List.getElem?_drop] at hx; exact h _ _ hx
  · simp at hx

mutual
theorem purA_ok {w ok L φ} (hh : HeapOK w ok L φ) {okv : Nat → Nat → Prop} : ∀ {a a' ids q v}, purA L a = some (a', ids, q) → q → R w ok L φ a v → (∀ b o, ok b o → okv b o) →
    (∀ b o, Seen L φ ids b o → okv b o) → Rp w okv a' v
  | .ref id off len hw, a', ids, q, v, h, hq, hr, hok, hs => by
    simp only [purA] at h
    split at h <;> simp only [Option.some.injEq, reduceCtorEq, Prod.mk.injEq] at h
    rename_i sz ro d c hL
    obtain ⟨rfl, rfl, rfl⟩ := h
    obtain ⟨hw1, hpe⟩ := hq
    obtain ⟨sz1, ro1, d1, c1, hL1, hle, ⟨a, n, cap, rfl⟩, hr'⟩ := hr.refInv
    rw [hL] at hL1; cases hL1
    obtain ⟨g1, g2⟩ := hr' hw1
    have hlen : ((c.drop off).take len).length = len := by simp; omega
    rcases g2 with ⟨g2, a1, g3⟩ | ⟨b, cap', pa, g2, g3, g4, g5, g6⟩
    · cases g3
      have : ((c.drop off).take len) = [] := List.eq_nil_of_length_eq_zero (by rw [hlen]; omega)
      rw [this]
      exact .list0 sz _ 0 (Nat.zero_le _)
    · cases g3
      rcases hh.live g2 with ⟨sz1, ro1, d1, c1, vs, rest, e, lo', hi', h1, h2, h3, h4⟩ | ⟨blk1, o1, h1, _, ho1⟩
      · rw [hL] at h1; cases h1
        rcases g6 with g6 | ⟨rfl, g7⟩
        · have : ((c.drop off).take len) = [] := List.eq_nil_of_length_eq_zero (by rw [hlen]; omega)
          rw [this]
          have hl0 : len = 0 := by omega
          subst hl0
          exact .list0 sz _ cap g5
        · have key := Rp.of_re (b := b) (off := off * sz) (cap := cap) L φ (h4.sub off len) hok (RE.mem_sub hpe) (fun j u hj => by
            rw [List.getElem?_take] at hj
            split at hj
            · rw [List.getElem?_drop] at hj
              have hlt := (List.getElem?_eq_some_iff.1 hj).1
              refine ⟨hs b _ ⟨id, by simp, g2, sz, ro, d, c, hL, by rw [← h4.1]; exact hlt⟩, ?_⟩
              rw [cell_blk h2]
              simp [List.getElem?_append_left hlt, hj]
            · simp at hj) (by rw [hlen]; exact g4) g5
          rwa [hlen] at key
      · rw [hL] at h1; cases h1; cases ho1
  | .agg cs, a', ids, q, v, h, hq, hr, hok, hs => by
    simp only [purA] at h
    split at h <;> simp only [Option.some.injEq, reduceCtorEq, Prod.mk.injEq] at h
    rename_i cs' ids' q' hl
    obtain ⟨rfl, rfl, rfl⟩ := h
    obtain ⟨vs, rfl, hlen, h1, h2⟩ := hr.aggInv
    obtain ⟨h3, h4⟩ := purL_ok hh hl hq hlen h2 hok hs
    exact .agg cs' vs h3 h1 h4
  | .tuple cs, a', ids, q, v, h, hq, hr, hok, hs => by
    simp only [purA] at h
    split at h <;> simp only [Option.some.injEq, reduceCtorEq, Prod.mk.injEq] at h
    rename_i cs' ids' q' hl
    obtain ⟨rfl, rfl, rfl⟩ := h
    obtain ⟨vs, rfl, hlen, h2⟩ : ∃ vs : List Value, v = .tuple vs.toArray ∧ vs.length = cs.length ∧ (∀ (i : Nat) (a : AV) (v : Value), cs[i]? = some a → vs[i]? = some v → R w ok L φ a v) := by
      cases hr with
      | pure _ _ h => cases h with | tuple _ vs hl h2 => exact ⟨vs, rfl, hl, fun i a v ha hv => .pure _ _ (h2 i a v ha hv)⟩
      | tuple _ vs hl h2 => exact ⟨vs, rfl, hl, h2⟩
    obtain ⟨h3, h4⟩ := purL_ok hh hl hq hlen h2 hok hs
    exact .tuple cs' vs h3 h4
  | .any, a', ids, q, v, h, hq, hr, hok, hs => by simp only [purA, Option.some.injEq, Prod.mk.injEq] at h; obtain ⟨rfl, _⟩ := h; exact .any v
  | .bool b, a', ids, q, v, h, hq, hr, hok, hs => by simp only [purA, Option.some.injEq, Prod.mk.injEq] at h; obtain ⟨rfl, _⟩ := h; exact (hr.toRp rfl).mono hok (fun _ _ _ => rfl)
  | .int k n, a', ids, q, v, h, hq, hr, hok, hs => by simp only [purA, Option.some.injEq, Prod.mk.injEq] at h; obtain ⟨rfl, _⟩ := h; exact (hr.toRp rfl).mono hok (fun _ _ _ => rfl)
  | .str s, a', ids, q, v, h, hq, hr, hok, hs => by simp only [purA, Option.some.injEq, Prod.mk.injEq] at h; obtain ⟨rfl, _⟩ := h; exact (hr.toRp rfl).mono hok (fun _ _ _ => rfl)
  | .list sz l, a', ids, q, v, h, hq, hr, hok, hs => by simp only [purA, Option.some.injEq, Prod.mk.injEq] at h; obtain ⟨rfl, _⟩ := h; exact (hr.toRp rfl).mono hok (fun _ _ _ => rfl)
  | .radr l, a', ids, q, v, h, hq, hr, hok, hs => by simp only [purA, Option.some.injEq, Prod.mk.injEq] at h; obtain ⟨rfl, _⟩ := h; exact (hr.toRp rfl).mono hok (fun _ _ _ => rfl)
  | .nils, a', ids, q, v, h, hq, hr, hok, hs => by simp only [purA, Option.some.injEq, Prod.mk.injEq] at h; obtain ⟨rfl, _⟩ := h; exact (hr.toRp rfl).mono hok (fun _ _ _ => rfl)
  | .nil0, a', ids, q, v, h, hq, hr, hok, hs => by simp only [purA, Option.some.injEq, Prod.mk.injEq] at h; obtain ⟨rfl, _⟩ := h; exact (hr.toRp rfl).mono hok (fun _ _ _ => rfl)
  | .nilp, a', ids, q, v, h, hq, hr, hok, hs => by simp only [purA, Option.some.injEq, Prod.mk.injEq] at h; obtain ⟨rfl, _⟩ := h; exact (hr.toRp rfl).mono hok (fun _ _ _ => rfl)
  | .nili, a', ids, q, v, h, hq, hr, hok, hs => by simp only [purA, Option.some.injEq, Prod.mk.injEq] at h; obtain ⟨rfl, _⟩ := h; exact (hr.toRp rfl).mono hok (fun _ _ _ => rfl)
  | .nilf, a', ids, q, v, h, hq, hr, hok, hs => by simp only [purA, Option.some.injEq, Prod.mk.injEq] at h; obtain ⟨rfl, _⟩ := h; exact (hr.toRp rfl).mono hok (fun _ _ _ => rfl)
  | .clo f k cs, a', ids, q, v, h, hq, hr, hok, hs => by
    simp only [purA] at h
    split at h <;> simp only [Option.some.injEq, reduceCtorEq, Prod.mk.injEq] at h
    rename_i cs' ids' q' hl
    obtain ⟨rfl, rfl, rfl⟩ := h
    obtain ⟨vs, rfl, hlen, h2⟩ : ∃ vs : List Value, v = .func (.func f) (vs.take k).toArray (vs.drop k).toArray ∧ vs.length = cs.length ∧ (∀ (i : Nat) (a : AV) (v : Value), cs[i]? = some a → vs[i]? = some v → R w ok L φ a v) := by
      cases hr with
      | pure _ _ h => cases h with | clo _ _ _ vs hl h2 => exact ⟨vs, rfl, hl, fun i a v ha hv => .pure _ _ (h2 i a v ha hv)⟩
      | clo _ _ _ vs hl h2 => exact ⟨vs, rfl, hl, h2⟩
    obtain ⟨h3, h4⟩ := purL_ok hh hl hq hlen h2 hok hs
    exact .clo f k cs' vs h3 h4
  | .own .., a', ids, q, v, h, hq, hr, hok, hs => by simp [purA] at h
  | .ptr id i j hw, a', ids, q, v, h, hq, hr, hok, hs => by
    simp only [purA] at h
    split at h
    · rename_i hc
      obtain ⟨rfl, rfl, rfl⟩ := hc
      split at h <;> simp only [Option.some.injEq, reduceCtorEq, Prod.mk.injEq] at h
      rename_i sz ro d c0 hL
      obtain ⟨rfl, rfl, rfl⟩ := h
      obtain ⟨hq, hone⟩ := hq
      obtain ⟨x, rfl⟩ : ∃ x, c0 = [x] := by
        cases c0 with
        | nil => simp at hone
        | cons x r => cases r with
          | nil => exact ⟨x, rfl⟩
          | cons y r => simp at hone
      rw [cel1_one] at hq ⊢
      obtain ⟨pa, sz1, ro1, d1, c1, rfl, hL1, hle, hr'⟩ := hr.ptrInv
      rw [hL] at hL1; cases hL1
      obtain ⟨b, g2, rfl⟩ := hr' rfl
      rcases hh.live g2 with ⟨sz1, ro1, d1, c1, vs, rest, e, lo', hi', h1, h2, h3, h4⟩ | ⟨blk1, o1, h1, _, ho1⟩
      · rw [hL] at h1; cases h1
        have key : ∀ (j : Nat) (y : AV), x.cells[j]? = some y → ∃ v, vs[j]? = some v ∧ v.oneCell' = true ∧ R w ok L φ y v := fun j y hy => by
          obtain ⟨v, k1, k2, k3⟩ := h4.2.2 0 x j y rfl hy
          rw [Nat.zero_mul, Nat.zero_add] at k1
          exact ⟨v, k1, k2, k3⟩
        have hg : ∀ (j : Nat) (v : Value), vs[j]? = some v → vs.getD j (.bool false) = v := fun j v hj => by simp [List.getD_eq_getElem?_getD, hj]
        have hz : (0 * sz + 0 : Nat) = 0 := by omega
        rw [hz]
        refine .radr x.cells b 0 (fun j => vs.getD j (.bool false)) (fun j y hy => ?_) (fun j y hy => ?_)
        · obtain ⟨v, k1, k2, k3⟩ := key j y hy
          have hlt := (List.getElem?_eq_some_iff.1 k1).1
          rw [hg j v k1]
          refine ⟨hs b _ ⟨id, by simp, g2, sz, ro, d, [x], hL, by rw [← h4.1]; omega⟩, ?_, k2⟩
          rw [cell_blk h2]
          simp [List.getElem?_append_left hlt, k1]
        · obtain ⟨v, k1, k2, k3⟩ := key j y hy
          rw [hg j v k1]
          exact (k3.toRp (pureBL_iff.1 hq j y hy)).mono hok (fun _ _ _ => rfl)
      · rw [hL] at h1; cases h1; cases ho1
    · simp at h
  | .it _, a', ids, q, v, h, hq, hr, hok, hs => by simp [purA] at h
  | .yld _, a', ids, q, v, h, hq, hr, hok, hs => by simp [purA] at h
  | .nxt .., a', ids, q, v, h, hq, hr, hok, hs => by simp [purA] at h
  | .cond .., a', ids, q, v, h, hq, hr, hok, hs => by simp [purA] at h
theorem purL_ok {w ok L φ} (hh : HeapOK w ok L φ) {okv : Nat → Nat → Prop} : ∀ {l l' ids q} {vs : List Value}, purL L l = some (l', ids, q) → q → vs.length = l.length →
    (∀ (i : Nat) (a : AV) (v : Value), l[i]? = some a → vs[i]? = some v → R w ok L φ a v) → (∀ b o, ok b o → okv b o) → (∀ b o, Seen L φ ids b o → okv b o) →
    vs.length = l'.length ∧ ∀ (i : Nat) (a : AV) (v : Value), l'[i]? = some a → vs[i]? = some v → Rp w okv a v
  | [], l', ids, q, vs, h, hq, hl, hr, hok, hs => by
    simp only [purL, Option.some.injEq, Prod.mk.injEq] at h
    obtain ⟨rfl, _⟩ := h
    exact ⟨hl, fun i a v ha => by simp at ha⟩
  | a :: r, l', ids, q, [], h, hq, hl, hr, hok, hs => by simp at hl
  | a :: r, l', ids, q, u :: us, h, hq, hl, hr, hok, hs => by
    simp only [purL] at h
    split at h <;> simp only [Option.some.injEq, reduceCtorEq, Prod.mk.injEq] at h
    rename_i a1 i1 q1 r1 j1 s1 ha hrr
    obtain ⟨rfl, rfl, rfl⟩ := h
    have h1 := purA_ok hh ha hq.1 (hr 0 a u rfl rfl) hok (fun b o ⟨id, hid, hrest⟩ => hs b o ⟨id, List.mem_append_left _ hid, hrest⟩)
    obtain ⟨h2, h3⟩ := purL_ok (vs := us) hh hrr hq.2 (by simpa using hl) (fun i x v hx hv => hr (i + 1) x v (by simpa using hx) (by simpa using hv)) hok
      (fun b o ⟨id, hid, hrest⟩ => hs b o ⟨id, List.mem_append_right _ hid, hrest⟩)
    refine ⟨by simp [h2], fun i x v hx hv => ?_⟩
    cases i with
    | zero => simp at hx hv; subst hx; subst hv; exact h1
    | succ i => exact h3 i x v (by simpa using hx) (by simpa using hv)
end
end Go.Abs
set_option linter.unusedVariables false
set_option linter.unusedSimpArgs false
namespace Go.Abs

def lkE (E : List Blk) : Nat → Option Blk := fun i => E[i]?

/-- What a call leaves. -/
structure PostE (w : World) (ok : Nat → Nat → Prop) (L : Nat → Option Blk) (φ : Nat → Option Nat) (w' : World) (ok' : Nat → Nat → Prop) (φ' : Nat → Option Nat) (L' : Nat → Option Blk) (res : AV) (v : Value) : Prop where
  frame : Fr (fun b => ∃ i, φ i = some b) w w'
  heap : HeapOK w' ok' L' φ'
  val : R w' ok' L' φ' res v
  kept : Keeps w ok L φ w' ok' L' φ'
  own : ∀ i b, φ' i = some b → (∃ j, φ j = some b) ∨ w.heap.size ≤ b
  okDn : ∀ b o, ok' b o → ok b o ∨ w.heap.size ≤ b ∨ ∃ i, φ i = some b

/-- The name under which a loop's 'yield' stands among the functions. -/
def yldF : FuncId := 1000000

/-- The fences of a walk: none at all, or that of a round. -/
def Good (F : Fence) : Prop := F = Fence.wide ∨ ∃ l, F = Fence.wide.inRound l

/-- What a call leads to, by the function's name (of 'yield': the value comes ahead of the arguments). -/
def InvF (f : FuncId) (vs : List Value) : Sem Next :=
  if f = yldF then (match vs with
    | .func (.yield l) _ _ :: us => Instr.yield l us.toArray
    | _ => stuck "no yield")
  else callFunc f vs.toArray

def NextX (P : Program) (Q : Ending → World → Prop) : Next → World → Prop
  | .enter f args, w => Calls P f args w Q
  | .value v, w => Q (.returned v) w
  | .round l f tmps assign body, w => ∀ F, Good F → ∀ n, RoundIn F n P l f tmps assign body w Q
  | _, _ => False

def CallsX (P : Program) (f : FuncId) (vs : List Value) (w : World) (Q : Ending → World → Prop) : Prop :=
  ∃ nx w', (InvF f vs).run P w = .ok nx w' ∧ NextX P Q nx w'

theorem CallsX.mono {P : Program} {f : FuncId} {vs : List Value} {w : World} {Q Q' : Ending → World → Prop} (h : CallsX P f vs w Q) (hq : ∀ e w', Q e w' → Q' e w') : CallsX P f vs w Q' := by
  obtain ⟨nx, w', h1, h2⟩ := h
  refine ⟨nx, w', h1, ?_⟩
  cases nx with
  | enter f args => exact Calls.mono h2 hq
  | value v => exact hq _ _ h2
  | round l f tmps assign body => exact fun F hF n => (h2 F hF n).mono hq
  | _ => exact h2.elim

def callable (P : Program) (f : FuncId) : Bool :=
  match P.funcs[f]? with
  | some fn => fn.body.isSome && !(fn.name == "runtime.NumGoroutine")
  | none => false

theorem run_callFunc {P : Program} {w : World} {f : FuncId} {args : Array Value} (h : callable P f = true) : (callFunc f args).run P w = .ok (.enter f args) w := by
  unfold callable at h
  split at h
  · rename_i fn hf
    simp only [Bool.and_eq_true, Bool.not_eq_true', beq_eq_false_iff_ne, ne_eq] at h
    obtain ⟨h1, h2⟩ := h
    have h3 : ¬ fn.body = none := fun e => by simp [e] at h1
    simp [callFunc, hf, h2, h3]
  · simp at h

/-- A function of the program's. -/
theorem CallsX.calls {P : Program} {f : FuncId} {vs : List Value} {w : World} {Q : Ending → World → Prop} (hc : callable P f = true) (hy : f ≠ yldF) (h : Calls P f vs.toArray w Q) : CallsX P f vs w Q :=
  ⟨.enter f vs.toArray, w, by simp only [InvF, if_neg hy]; exact run_callFunc hc, h⟩

theorem CallsX.toCalls {P : Program} {f : FuncId} {vs : List Value} {w : World} {Q : Ending → World → Prop} (hc : callable P f = true) (hy : f ≠ yldF) (h : CallsX P f vs w Q) : Calls P f vs.toArray w Q := by
  obtain ⟨nx, w', h1, h2⟩ := h
  simp only [InvF, if_neg hy] at h1
  rw [run_callFunc hc] at h1
  cases h1
  exact h2

/-- THE CONTRACT of a function: E, E': the blocks that it is handed, before and behind. -/
def SpecE (P : Program) (f : FuncId) (E : List Blk) (args : List AV) (E' : List Blk) (res : AV) : Prop :=
  ∀ (w : World) (ok : Nat → Nat → Prop) (φ : Nat → Option Nat) (vs : List Value), HeapOK w ok (lkE E) φ → vs.length = args.length →
    (∀ (i : Nat) (a : AV) (v : Value), args[i]? = some a → vs[i]? = some v → R w ok (lkE E) φ a v) →
    CallsX P f vs w fun e w' => ∃ v ok' φ', e = .returned v ∧ PostE w ok (lkE E) φ w' ok' φ' (lkE E') res v

/-! ### other names for blocks -/
mutual
def ren (σ : Nat → Nat) : AV → AV
  | .ref id o n h => .ref (σ id) o n h
  | .ptr id i j h => .ptr (σ id) i j h
  | .it id => .it (σ id)
  | .yld id => .yld (σ id)
  | .agg cs => .agg (renL σ cs)
  | .tuple cs => .tuple (renL σ cs)
  | .clo f k cs => .clo f k (renL σ cs)
  | .cond e v => .cond e (ren σ v)
  | .any => .any
  | .bool b => .bool b
  | .int k n => .int k n
  | .str s => .str s
  | .list sz l => .list sz l
  | .own sz l => .own sz l
  | .radr l => .radr l
  | .nils => .nils
  | .nil0 => .nil0
  | .nilp => .nilp
  | .nili => .nili
  | .nilf => .nilf
  | .nxt m p r => .nxt m p r
def renL (σ : Nat → Nat) : List AV → List AV
  | [] => []
  | a :: r => ren σ a :: renL σ r
end
theorem renL_eq (σ : Nat → Nat) (l : List AV) : renL σ l = l.map (ren σ) := by
  induction l with
  | nil => rfl
  | cons a l ih => simp [renL, ih]
def renS (σ : Nat → Nat) : List (Nat × AV) → List (Nat × AV)
  | [] => []
  | (t, a) :: r => (t, ren σ a) :: renS σ r
theorem lkA_renS (σ : Nat → Nat) (t : Nat) : ∀ l : List (Nat × AV), lkA (renS σ l) t = ren σ (lkA l t)
  | [] => rfl
  | (k, a) :: r => by
    simp only [renS, lkA]
    split
    · rfl
    · exact lkA_renS σ t r
theorem ren_cells (σ : Nat → Nat) (a : AV) : (ren σ a).cells = a.cells.map (ren σ) := by
  cases a <;> simp [ren, AV.cells, renL_eq]
def renB (σ : Nat → Nat) : Blk → Blk
  | .cells sz ro d c => .cells sz ro (ren σ d) (c.map (ren σ))
  | .iter s pos => .iter s pos
  | .loop lc st pd sl => .loop lc st pd (renS σ sl)
  | .defer => .defer
theorem renB_isC (σ : Nat → Nat) (b : Blk) : (renB σ b).isC = b.isC := by cases b <;> rfl
theorem renB_same {σ : Nat → Nat} {b b' : Blk} (h : b.same b') : (renB σ b).same (renB σ b') := by
  cases b <;> cases b' <;> simp_all [Blk.same, renB]

theorem renB_same' {σ : Nat → Nat} {b : Blk} (h : (renB σ b).isC = false) : (renB σ b).same b := by
  cases b <;> simp_all [Blk.same, renB, Blk.isC]

/-- What is known under one set of names is known under the other. -/
theorem R.ren {w ok L φ w' ok' L' φ' a v} (σ : Nat → Nat) (hL : ∀ i b, L i = some b → L' (σ i) = some (renB σ b)) (hφ : ∀ i b, L i = some b → φ' (σ i) = φ i)
    (hok : ∀ b o, ok b o → ok' b o) (hc : ∀ b o, ok b o → w'.cell? ⟨b, o, none⟩ = w.cell? ⟨b, o, none⟩) (hcap : ∀ i blk b n, L i = some blk → φ i = some b → CapOK w b n → CapOK w' b n)
    (h : R w ok L φ a v) : R w' ok' L' φ' (Abs.ren σ a) v := by
  have pure : ∀ {a v}, Rp w ok a v → R w' ok' L' φ' (Abs.ren σ a) v := by
    intro a v h
    induction h with
    | any v => exact .pure _ _ (.any v)
    | bool b => exact .pure _ _ (.bool b)
    | int k n => exact .pure _ _ (.int k n)
    | str s => exact .pure _ _ (.str s)
    | agg cs vs hl h1 h ih =>
      simp only [Abs.ren, renL_eq]
      refine .agg _ vs (by simp [hl]) h1 (fun i a v ha hv => ?_)
      simp only [List.getElem?_map, Option.map_eq_some_iff] at ha
      obtain ⟨x, hx, rfl⟩ := ha
      exact ih i x v hx hv
    | tuple cs vs hl h ih =>
      simp only [Abs.ren, renL_eq]
      refine .tuple _ vs (by simp [hl]) (fun i a v ha hv => ?_)
      simp only [List.getElem?_map, Option.map_eq_some_iff] at ha
      obtain ⟨x, hx, rfl⟩ := ha
      exact ih i x v hx hv
    | list0 sz a cap hm => exact .pure _ _ (.list0 sz a cap hm)
    | list sz l b off cap cv hcap hm hsz h1 h _ => exact .pure _ _ ((Rp.list sz l b off cap cv hcap hm hsz h1 h).mono hok hc)
    | radr cs b off cv h1 h _ => exact .pure _ _ ((Rp.radr cs b off cv h1 h).mono hok hc)
    | own sz l b h => exact .pure _ _ (.own sz l b h)
    | nils => exact .pure _ _ .nils
    | nil0 a => exact .pure _ _ (.nil0 a)
    | nilp => exact .pure _ _ .nilp
    | nili => exact .pure _ _ .nili
    | nilf => exact .pure _ _ .nilf
    | nxtT p r => exact .pure _ _ (.nxtT p r)
    | nxtF p r => exact .pure _ _ (.nxtF p r)
    | clo f k cs vs hl h ih =>
      simp only [Abs.ren, renL_eq]
      refine .clo f k _ vs (by simp [hl]) (fun i a v ha hv => ?_)
      simp only [List.getElem?_map, Option.map_eq_some_iff] at ha
      obtain ⟨x, hx, rfl⟩ := ha
      exact ih i x v hx hv
    | condT a v h ih => exact .condT _ v ih
    | condF a => exact .pure _ _ (.condF _)
  induction h with
  | pure a v h => exact pure h
  | ref id off len hw va vn vc sz ro d c hLi hle h =>
    refine .ref (σ id) off len hw va vn vc sz ro _ _ (hL _ _ hLi) (by simpa using hle) (fun e => ?_)
    obtain ⟨h1, h2⟩ := h (by simpa using e)
    refine ⟨h1, ?_⟩
    rcases h2 with h2 | ⟨b, cap, a, h3, h4, h5, h6, h7⟩
    · exact .inl h2
    · refine .inr ⟨b, cap, a, by rw [hφ _ _ hLi]; exact h3, h4, h5, h6, ?_⟩
      rcases h7 with h7 | ⟨h7, h8⟩
      · exact .inl h7
      · exact .inr ⟨h7, hcap _ _ _ _ hLi h3 h8⟩
  | ptr id i j hw pa sz ro d c hLi hle h =>
    refine .ptr (σ id) i j hw pa sz ro _ _ (hL _ _ hLi) (by simpa using hle) (fun e => ?_)
    obtain ⟨b, h1, h2⟩ := h (by simpa using e)
    exact ⟨b, by rw [hφ _ _ hLi]; exact h1, h2⟩
  | it id s pos b hLi hφi => exact .it (σ id) s pos b (hL _ _ hLi) (by rw [hφ _ _ hLi]; exact hφi)
  | yld id lc st pd sl b hLi hφi => exact .yld (σ id) lc st pd _ b (hL _ _ hLi) (by rw [hφ _ _ hLi]; exact hφi)
  | agg cs vs hl h1 h ih =>
    simp only [Abs.ren, renL_eq]
    refine .agg _ vs (by simp [hl]) h1 (fun i a v ha hv => ?_)
    simp only [List.getElem?_map, Option.map_eq_some_iff] at ha
    obtain ⟨x, hx, rfl⟩ := ha
    exact ih i x v hx hv
  | tuple cs vs hl h ih =>
    simp only [Abs.ren, renL_eq]
    refine .tuple _ vs (by simp [hl]) (fun i a v ha hv => ?_)
    simp only [List.getElem?_map, Option.map_eq_some_iff] at ha
    obtain ⟨x, hx, rfl⟩ := ha
    exact ih i x v hx hv
  | clo f k cs vs hl h ih =>
    simp only [Abs.ren, renL_eq]
    refine .clo f k _ vs (by simp [hl]) (fun i a v ha hv => ?_)
    simp only [List.getElem?_map, Option.map_eq_some_iff] at ha
    obtain ⟨x, hx, rfl⟩ := ha
    exact ih i x v hx hv
  | condT a v h ih => exact .condT _ v ih

theorem RE.ren {w ok L φ w' ok' L' φ' sz c vs} (σ : Nat → Nat) (k : ∀ a v, R w ok L φ a v → R w' ok' L' φ' (Abs.ren σ a) v) (h : RE w ok L φ sz c vs) : RE w' ok' L' φ' sz (c.map (Abs.ren σ)) vs := by
  refine ⟨by simp [h.1], fun i x hx => ?_, fun i x j y hx hy => ?_⟩
  · simp only [List.getElem?_map, Option.map_eq_some_iff] at hx
    obtain ⟨z, hz, rfl⟩ := hx
    rw [ren_cells, List.length_map]; exact h.2.1 i z hz
  · simp only [List.getElem?_map, Option.map_eq_some_iff] at hx
    obtain ⟨z, hz, rfl⟩ := hx
    rw [ren_cells] at hy
    simp only [List.getElem?_map, Option.map_eq_some_iff] at hy
    obtain ⟨u, hu, rfl⟩ := hy
    obtain ⟨v, h1, h2, h3⟩ := h.2.2 i z j u hz hu
    exact ⟨v, h1, h2, k _ _ h3⟩

/-- Back: what the caller knows under its names, the callee knows under its own. -/
theorem R.unren {w ok L φ ok' L' φ' a v} (σ : Nat → Nat) (hL : ∀ i b, L (σ i) = some b → ∃ b', L' i = some b' ∧ b = renB σ b' ∧ φ' i = φ (σ i))
    (hok : ∀ b o, ok b o → ok' b o) (h : R w ok L φ a v) : ∀ a0, a = Abs.ren σ a0 → R w ok' L' φ' a0 v := by
  have pure : ∀ {a v}, Rp w ok a v → ∀ a0, a = Abs.ren σ a0 → R w ok' L' φ' a0 v := by
    intro a v h
    induction h with
    | any v => intro a0 e; cases a0 <;> simp [Abs.ren] at e; exact .pure _ _ (.any v)
    | bool b => intro a0 e; cases a0 <;> simp [Abs.ren] at e; subst e; exact .pure _ _ (.bool b)
    | int k n => intro a0 e; cases a0 <;> simp [Abs.ren] at e; obtain ⟨rfl, rfl⟩ := e; exact .pure _ _ (.int k n)
    | str s => intro a0 e; cases a0 <;> simp [Abs.ren] at e; subst e; exact .pure _ _ (.str s)
    | agg cs vs hl h1 h ih =>
      intro a0 e
      cases a0 <;> simp only [Abs.ren, renL_eq, AV.agg.injEq, reduceCtorEq] at e
      rename_i ds
      subst e
      exact .agg ds vs (by simpa using hl) h1 (fun i a v ha hv => ih i (Abs.ren σ a) v (by simp [ha]) hv a rfl)
    | tuple cs vs hl h ih =>
      intro a0 e
      cases a0 <;> simp only [Abs.ren, renL_eq, AV.tuple.injEq, reduceCtorEq] at e
      rename_i ds
      subst e
      exact .tuple ds vs (by simpa using hl) (fun i a v ha hv => ih i (Abs.ren σ a) v (by simp [ha]) hv a rfl)
    | list0 sz a cap hm => intro a0 e; cases a0 <;> simp [Abs.ren] at e; obtain ⟨rfl, rfl⟩ := e; exact .pure _ _ (.list0 sz a cap hm)
    | list sz l b off cap cv hcap hm hsz h1 h _ =>
      intro a0 e; cases a0 <;> simp [Abs.ren] at e; obtain ⟨rfl, rfl⟩ := e
      exact .pure _ _ ((Rp.list sz l b off cap cv hcap hm hsz h1 h).mono hok (fun _ _ _ => rfl))
    | radr cs b off cv h1 h _ =>
      intro a0 e; cases a0 <;> simp [Abs.ren] at e; subst e
      exact .pure _ _ ((Rp.radr cs b off cv h1 h).mono hok (fun _ _ _ => rfl))
    | own sz l b h => intro a0 e; cases a0 <;> simp [Abs.ren] at e; obtain ⟨rfl, rfl⟩ := e; exact .pure _ _ (.own sz l b h)
    | nils => intro a0 e; cases a0 <;> simp [Abs.ren] at e; exact .pure _ _ .nils
    | nil0 a => intro a0 e; cases a0 <;> simp [Abs.ren] at e; exact .pure _ _ (.nil0 a)
    | nilp => intro a0 e; cases a0 <;> simp [Abs.ren] at e; exact .pure _ _ .nilp
    | nili => intro a0 e; cases a0 <;> simp [Abs.ren] at e; exact .pure _ _ .nili
    | nilf => intro a0 e; cases a0 <;> simp [Abs.ren] at e; exact .pure _ _ .nilf
    | nxtT p r => intro a0 e; cases a0 <;> simp [Abs.ren] at e; obtain ⟨rfl, rfl, rfl⟩ := e; exact .pure _ _ (.nxtT p r)
    | nxtF p r => intro a0 e; cases a0 <;> simp [Abs.ren] at e; obtain ⟨rfl, rfl, rfl⟩ := e; exact .pure _ _ (.nxtF p r)
    | clo f k cs vs hl h ih =>
      intro a0 e
      cases a0 <;> simp only [Abs.ren, renL_eq, AV.clo.injEq, reduceCtorEq] at e
      rename_i g j ds
      obtain ⟨rfl, rfl, rfl⟩ := e
      exact .clo f _ ds vs (by simpa using hl) (fun i a v ha hv => ih i (Abs.ren σ a) v (by simp [ha]) hv a rfl)
    | condT a v h ih =>
      intro a0 e
      cases a0 <;> simp only [Abs.ren, AV.cond.injEq, reduceCtorEq] at e
      obtain ⟨rfl, rfl⟩ := e
      exact .condT _ v (ih _ rfl)
    | condF a =>
      intro a0 e
      cases a0 <;> simp only [Abs.ren, AV.cond.injEq, reduceCtorEq] at e
      obtain ⟨rfl, rfl⟩ := e
      exact .pure _ _ (.condF _)
  induction h with
  | pure a v h => exact pure h
  | ref id off len hw va vn vc sz ro d c hLi hle h =>
    intro a0 e
    cases a0 <;> simp only [Abs.ren, AV.ref.injEq, reduceCtorEq] at e
    rename_i id0 o0 l0 h0
    obtain ⟨rfl, rfl, rfl, rfl⟩ := e
    obtain ⟨b', h1, h2, h3⟩ := hL _ _ hLi
    cases b' <;> simp only [renB, Blk.cells.injEq, reduceCtorEq] at h2
    obtain ⟨rfl, rfl, rfl, rfl⟩ := h2
    refine .ref id0 off len hw va vn vc _ _ _ _ h1 (by simpa using hle) (fun e => ?_)
    obtain ⟨g1, g2⟩ := h (by simpa using e)
    refine ⟨g1, ?_⟩
    rw [h3]; exact g2
  | ptr id i j hw pa sz ro d c hLi hle h =>
    intro a0 e
    cases a0 <;> simp only [Abs.ren, AV.ptr.injEq, reduceCtorEq] at e
    rename_i id0 i0 j0 h0
    obtain ⟨rfl, rfl, rfl, rfl⟩ := e
    obtain ⟨b', h1, h2, h3⟩ := hL _ _ hLi
    cases b' <;> simp only [renB, Blk.cells.injEq, reduceCtorEq] at h2
    obtain ⟨rfl, rfl, rfl, rfl⟩ := h2
    refine .ptr id0 i j hw pa _ _ _ _ h1 (by simpa using hle) (fun e => ?_)
    rw [h3]; exact h (by simpa using e)
  | it id s pos b hLi hφi =>
    intro a0 e
    cases a0 <;> simp only [Abs.ren, AV.it.injEq, reduceCtorEq] at e
    subst e
    obtain ⟨b', h1, h2, h3⟩ := hL _ _ hLi
    cases b' <;> simp only [renB, Blk.iter.injEq, reduceCtorEq] at h2
    obtain ⟨rfl, rfl⟩ := h2
    exact .it _ s pos b h1 (by rw [h3]; exact hφi)
  | yld id lc st pd sl b hLi hφi =>
    intro a0 e
    cases a0 <;> simp only [Abs.ren, AV.yld.injEq, reduceCtorEq] at e
    subst e
    obtain ⟨b', h1, h2, h3⟩ := hL _ _ hLi
    cases b' <;> simp only [renB, Blk.loop.injEq, reduceCtorEq] at h2
    obtain ⟨rfl, rfl, rfl, rfl⟩ := h2
    exact .yld _ lc st pd _ b h1 (by rw [h3]; exact hφi)
  | agg cs vs hl h1 h ih =>
    intro a0 e
    cases a0 <;> simp only [Abs.ren, renL_eq, AV.agg.injEq, reduceCtorEq] at e
    rename_i ds
    subst e
    exact .agg ds vs (by simpa using hl) h1 (fun i a v ha hv => ih i (Abs.ren σ a) v (by simp [ha]) hv a rfl)
  | tuple cs vs hl h ih =>
    intro a0 e
    cases a0 <;> simp only [Abs.ren, renL_eq, AV.tuple.injEq, reduceCtorEq] at e
    rename_i ds
    subst e
    exact .tuple ds vs (by simpa using hl) (fun i a v ha hv => ih i (Abs.ren σ a) v (by simp [ha]) hv a rfl)
  | clo f k cs vs hl h ih =>
    intro a0 e
    cases a0 <;> simp only [Abs.ren, renL_eq, AV.clo.injEq, reduceCtorEq] at e
    rename_i g j ds
    obtain ⟨rfl, rfl, rfl⟩ := e
    exact .clo f _ ds vs (by simpa using hl) (fun i a v ha hv => ih i (Abs.ren σ a) v (by simp [ha]) hv a rfl)
  | condT a v h ih =>
    intro a0 e
    cases a0 <;> simp only [Abs.ren, AV.cond.injEq, reduceCtorEq] at e
    obtain ⟨rfl, rfl⟩ := e
    exact .condT _ v (ih _ rfl)

theorem RE.unren {w ok L φ ok' L' φ' sz c vs} (σ : Nat → Nat) (k : ∀ a v, R w ok L φ (Abs.ren σ a) v → R w ok' L' φ' a v) (h : RE w ok L φ sz (c.map (Abs.ren σ)) vs) : RE w ok' L' φ' sz c vs := by
  refine ⟨by simpa using h.1, fun i x hx => ?_, fun i x j y hx hy => ?_⟩
  · have := h.2.1 i (Abs.ren σ x) (by simp [hx])
    rwa [ren_cells, List.length_map] at this
  · obtain ⟨v, h1, h2, h3⟩ := h.2.2 i (Abs.ren σ x) j (Abs.ren σ y) (by simp [hx]) (by rw [ren_cells]; simp [hy])
    exact ⟨v, h1, h2, k _ _ h3⟩

theorem ObjR.ren {w ok L φ w' ok' L' φ' b o} (σ : Nat → Nat) (k : ∀ a v, R w ok L φ a v → R w' ok' L' φ' (Abs.ren σ a) v) (h : ObjR w ok L φ b o) : ObjR w' ok' L' φ' (renB σ b) o := by
  cases h with
  | iter s pos => exact .iter s pos
  | loop lc st pd sl r h => exact .loop lc st pd _ r ⟨h.state, h.pending, h.params, h.assign, h.body, h.size, fun t => by rw [lkA_renS]; exact k _ _ (h.slots t)⟩
  | defer => exact .defer
theorem ObjR.unren {w ok L φ w' ok' L' φ' b o} (σ : Nat → Nat) (k : ∀ a v, R w ok L φ (Abs.ren σ a) v → R w' ok' L' φ' a v) (h : ObjR w ok L φ (renB σ b) o) : ObjR w' ok' L' φ' b o := by
  generalize e : renB σ b = bb at h
  cases h with
  | iter s pos => cases b <;> simp only [renB, Blk.iter.injEq, reduceCtorEq] at e; obtain ⟨rfl, rfl⟩ := e; exact .iter _ _
  | loop lc st pd sl r h =>
    cases b <;> simp only [renB, Blk.loop.injEq, reduceCtorEq] at e
    obtain ⟨rfl, rfl, rfl, rfl⟩ := e
    exact .loop _ _ _ _ r ⟨h.state, h.pending, h.params, h.assign, h.body, h.size, fun t => k _ _ (by rw [← lkA_renS]; exact h.slots t)⟩
  | defer => cases b <;> simp only [renB, reduceCtorEq] at e; exact .defer

/-! ### a call -/
/-- The names under which the caller hands its blocks to the callee. -/
structure Hands (L : Nat → Option Blk) (E : List Blk) (σ : Nat → Nat) (V : List Nat) (m : Nat) : Prop where
  fwd : ∀ i b, E[i]? = some b → L (σ i) = some (renB σ b) ∧ σ i ∉ V
  dead : ∀ i, E.length ≤ i → L (σ i) = none
  inj : ∀ i j, i < m → j < m → σ i = σ j → i = j
  le : E.length ≤ m

theorem Hands.back {L E σ V m} (h : Hands L E σ V m) : ∀ i b, L (σ i) = some b → ∃ b', lkE E i = some b' ∧ b = renB σ b' := by
  intro i b hb
  cases he : E[i]? with
  | none =>
    have := h.dead i (List.getElem?_eq_none_iff.1 he)
    rw [hb] at this; cases this
  | some b' =>
    have := (h.fwd i b' he).1
    rw [hb] at this; cases this
    exact ⟨b', he, rfl⟩

/-- The callee's blocks are in order. -/
theorem HeapOK.callee {w ok L φ E σ V m} (h : HeapOK w ok L φ) (hs : Hands L E σ V m) :
    HeapOK w (fun b o => ok b o ∨ Seen L φ V b o) (lkE E) (fun i => φ (σ i)) := by
  have k : ∀ a v, R w ok L φ (Abs.ren σ a) v → R w (fun b o => ok b o ∨ Seen L φ V b o) (lkE E) (fun i => φ (σ i)) a v := fun a v hr =>
    R.unren σ (fun i b hb => let ⟨b', h1, h2⟩ := hs.back i b hb; ⟨b', h1, h2, rfl⟩) (fun _ _ h => .inl h) hr a rfl
  refine ⟨?_, ?_, ?_, ?_, ?_⟩
  · intro id sz ro d c hL
    have h1 := (hs.fwd id _ hL).1
    rcases h.blk (σ id) _ _ _ _ h1 with ⟨h2, h3⟩ | ⟨b, vs, rest, e, lo, hi, h2, h3, h4, h5⟩
    · exact .inl ⟨h2, by simpa using h3⟩
    · exact .inr ⟨b, vs, rest, e, lo, hi, h2, h3, h4, h5.unren σ k⟩
  · intro id bb hL hcc
    obtain ⟨b, o, h1, h2, h3⟩ := h.obj (σ id) _ (hs.fwd id _ hL).1 (by rw [renB_isC]; exact hcc)
    exact ⟨b, o, h1, h2, h3.unren σ k⟩
  · intro id hL
    exact h.dom _ (hs.dead id (List.getElem?_eq_none_iff.1 hL))
  · intro i j b hi hj
    have h1 := h.inj _ _ b hi hj
    have live : ∀ i, φ (σ i) = some b → i < E.length := fun i hi => by
      rcases Nat.lt_or_ge i E.length with h | hge
      · exact h
      · rw [h.dom _ (hs.dead i hge)] at hi; cases hi
    have l1 := live i hi
    have l2 := live j hj
    have := hs.le
    exact hs.inj i j (by omega) (by omega) h1
  · intro b o hb
    rcases hb with hb | ⟨id, hid, h1, h2⟩
    · obtain ⟨h3, h4⟩ := h.shut b o hb
      refine ⟨h3, fun i hi => ?_⟩
      obtain ⟨sz, d, c, h5, h6⟩ := h4 _ hi
      obtain ⟨b', h7, h8⟩ := hs.back _ _ h5
      cases b' <;> simp only [renB, Blk.cells.injEq, reduceCtorEq] at h8
      obtain ⟨rfl, rfl, rfl, rfl⟩ := h8
      exact ⟨_, _, _, h7, by simpa using h6⟩
    · refine ⟨h.lt h1, fun i hi => ?_⟩
      have e : σ i = id := h.inj _ _ b hi h1
      have hlt : i < E.length := by
        rcases Nat.lt_or_ge i E.length with h' | hge
        · exact h'
        · rw [h.dom _ (hs.dead i hge)] at hi; cases hi
      exact absurd (e ▸ hid) (hs.fwd i _ (List.getElem?_eq_getElem hlt)).2

def roB : Blk → Blk
  | .cells sz _ d c => .cells sz true d c
  | b => b
theorem roB_notC {b : Blk} (h : b.isC = false) : roB b = b := by cases b <;> simp_all [Blk.isC, roB]
theorem roB_isC (b : Blk) : (roB b).isC = b.isC := by cases b <;> rfl

/-- The caller's blocks behind the call: those that were handed are as the callee left them; those that were seen are never written again. -/
def afterL (L : Nat → Option Blk) (σ : Nat → Nat) (V : List Nat) (E' : List Blk) : Nat → Option Blk := fun j =>
  match (List.range E'.length).find? fun i => σ i == j with
  | some i => (E'[i]?).map (renB σ)
  | none => if j ∈ V then (L j).map roB else L j
def afterP (φ : Nat → Option Nat) (σ : Nat → Nat) (n : Nat) (φ' : Nat → Option Nat) : Nat → Option Nat := fun j =>
  match (List.range n).find? fun i => σ i == j with
  | some i => φ' i
  | none => φ j

theorem find_some {σ : Nat → Nat} {n j i : Nat} (h : (List.range n).find? (fun i => σ i == j) = some i) : i < n ∧ σ i = j := by
  have h1 := List.mem_of_find?_eq_some h
  have h2 := List.find?_some h
  exact ⟨List.mem_range.1 h1, by simpa using h2⟩
theorem find_none {σ : Nat → Nat} {n j : Nat} (h : (List.range n).find? (fun i => σ i == j) = none) : ∀ i, i < n → σ i ≠ j := by
  intro i hi
  have := List.find?_eq_none.1 h i (List.mem_range.2 hi)
  simpa using this
theorem find_self {σ : Nat → Nat} {n i : Nat} (hinj : ∀ i j, i < n → j < n → σ i = σ j → i = j) (hi : i < n) : (List.range n).find? (fun k => σ k == σ i) = some i := by
  cases h : (List.range n).find? (fun k => σ k == σ i) with
  | none => exact absurd rfl (find_none h i hi)
  | some k =>
    obtain ⟨h1, h2⟩ := find_some h
    rw [hinj k i h1 hi h2]

theorem Ext.call {w0 X L ok φ w w' E E' σ V ok' φ' res v} (h : HeapOK w ok L φ) (hs : Hands L E σ V E'.length)
    (post : PostE w (fun b o => ok b o ∨ Seen L φ V b o) (lkE E) (fun i => φ (σ i)) w' ok' φ' (lkE E') res v) :
    Ext w0 X L ok φ w (afterL L σ V E') ok' (afterP φ σ E'.length φ') w' ∧ R w' ok' (afterL L σ V E') (afterP φ σ E'.length φ') (Abs.ren σ res) v := by
  -- the names of blocks that live behind the call
  have hlive : ∀ i b, lkE E' i = some b → i < E'.length := fun i b hb => (List.getElem?_eq_some_iff.1 hb).1
  have hLn : ∀ i b, lkE E' i = some b → afterL L σ V E' (σ i) = some (renB σ b) := fun i b hb => by
    have := hlive i b hb
    simp only [afterL, find_self hs.inj this]
    rw [show E'[i]? = some b from hb]; rfl
  have hφn : ∀ i b, lkE E' i = some b → afterP φ σ E'.length φ' (σ i) = φ' i := fun i b hb => by
    simp only [afterP, find_self hs.inj (hlive i b hb)]
  have kR : ∀ a u, R w' ok' (lkE E') φ' a u → R w' ok' (afterL L σ V E') (afterP φ σ E'.length φ') (Abs.ren σ a) u := fun a u hr =>
    R.ren σ hLn hφn (fun _ _ h => h) (fun _ _ _ => rfl) (fun _ _ _ _ _ _ h => h) hr
  -- the caller's own blocks that were not handed
  have hext : ∀ i b, φ (σ i) = some b → i < E.length := fun i b hb => by
    rcases Nat.lt_or_ge i E.length with h' | hge
    · exact h'
    · rw [h.dom _ (hs.dead i hge)] at hb; cases hb
  have hblock : ∀ j b, φ j = some b → (∀ i, i < E'.length → σ i ≠ j) → w'.heap[b]? = w.heap[b]? := fun j b hb hj =>
    post.frame.block b (h.lt hb) (fun ⟨i, hi⟩ => by
      have := hext i b hi
      have := hs.le
      exact hj i (by omega) (h.inj _ _ b hi hb))
  have hcapO : ∀ j b n, φ j = some b → (∀ i, i < E'.length → σ i ≠ j) → CapOK w b n → CapOK w' b n := fun j b n hb hj hc => capOK_of_heap (hblock j b hb hj) hc
  have keeps : Keeps w ok L φ w' ok' (afterL L σ V E') (afterP φ σ E'.length φ') := by
    refine ⟨fun b o hb => post.kept.okUp b o (.inl hb), fun b o hb => post.kept.cell b o (.inl hb), fun j sz ro d c hj => ?_, fun j bb hj hcc => ?_⟩
    · cases hf : (List.range E'.length).find? fun i => σ i == j with
      | some i =>
        obtain ⟨h1, rfl⟩ := find_some hf
        obtain ⟨b', h2, h3⟩ := hs.back i _ hj
        cases b' <;> simp only [renB, Blk.cells.injEq, reduceCtorEq] at h3
        obtain ⟨rfl, rfl, rfl, rfl⟩ := h3
        obtain ⟨ro', d', c', k1, k2, k3⟩ := post.kept.cells i _ _ _ _ h2
        refine ⟨ro', _, _, hLn i _ k1, by simpa using k2, fun e => ?_⟩
        obtain ⟨k4, k5⟩ := k3 (by simpa using e)
        exact ⟨by rw [hφn i _ k1]; exact k4, fun b n hb hc => k5 b n hb hc⟩
      | none =>
        have hno := find_none hf
        by_cases hV : j ∈ V
        · exact ⟨true, d, c, by simp [afterL, hf, hV, hj, roB], Nat.le_refl _, fun _ => ⟨by simp [afterP, hf], fun b n hb hc => hcapO j b n hb hno hc⟩⟩
        · exact ⟨ro, d, c, by simp [afterL, hf, hV, hj], Nat.le_refl _, fun _ => ⟨by simp [afterP, hf], fun b n hb hc => hcapO j b n hb hno hc⟩⟩
    · cases hf : (List.range E'.length).find? fun i => σ i == j with
      | some i =>
        obtain ⟨h1, rfl⟩ := find_some hf
        obtain ⟨b', h2, h3⟩ := hs.back i _ hj
        subst h3
        rw [renB_isC] at hcc
        obtain ⟨p', k1, k2, k3⟩ := post.kept.obj i _ h2 hcc
        exact ⟨renB σ p', hLn i _ k1, renB_same k2, by rw [hφn i _ k1]; exact k3⟩
      | none =>
        by_cases hV : j ∈ V
        · exact ⟨bb, by simp [afterL, hf, hV, hj, roB_notC hcc], Blk.same_refl hcc, by simp [afterP, hf]⟩
        · exact ⟨bb, by simp [afterL, hf, hV, hj], Blk.same_refl hcc, by simp [afterP, hf]⟩
  have kO : ∀ a u, R w ok L φ a u → R w' ok' (afterL L σ V E') (afterP φ σ E'.length φ') a u := fun a u hr => hr.keep keeps
  refine ⟨⟨keeps, ⟨?_, ?_, ?_, ?_, ?_⟩, ?_, ?_, ?_⟩, kR _ _ post.val⟩
  · intro j sz ro d c hj
    cases hf : (List.range E'.length).find? fun i => σ i == j with
    | some i =>
      obtain ⟨h1, rfl⟩ := find_some hf
      have hEi : lkE E' i = some E'[i] := List.getElem?_eq_getElem h1
      rw [hLn i _ hEi] at hj
      cases hb : E'[i] with
      | iter s pos => rw [hb] at hj; simp [renB] at hj
      | loop lc st pd sl => rw [hb] at hj; simp [renB] at hj
      | defer => rw [hb] at hj; simp [renB] at hj
      | cells sz1 ro1 d1 c1 =>
        rw [hb] at hj hEi
        simp only [renB, Option.some.injEq, Blk.cells.injEq] at hj
        obtain ⟨rfl, rfl, rfl, rfl⟩ := hj
        rw [hφn i _ hEi]
        rcases post.heap.blk i _ _ _ _ hEi with ⟨h2, h3⟩ | ⟨b, vs, rest, e, lo, hi, h2, h3, h4, h5⟩
        · exact .inl ⟨h2, by simp [h3]⟩
        · exact .inr ⟨b, vs, rest, e, lo, hi, h2, h3, h4, h5.ren σ kR⟩
    | none =>
      have hno := find_none hf
      have hP : afterP φ σ E'.length φ' j = φ j := by simp [afterP, hf]
      rw [hP]
      have hold : ∃ ro0, L j = some (.cells sz ro0 d c) := by
        simp only [afterL, hf] at hj
        split at hj
        · simp only [Option.map_eq_some_iff] at hj
          obtain ⟨b, hb, hb2⟩ := hj
          cases b with
          | cells sz1 ro1 d1 c1 => simp only [roB, Blk.cells.injEq] at hb2; obtain ⟨rfl, _, rfl, rfl⟩ := hb2; exact ⟨ro1, hb⟩
          | iter s pos => simp [roB] at hb2
          | loop lc st pd sl => simp [roB] at hb2
          | defer => simp [roB] at hb2
        · exact ⟨ro, hj⟩
      obtain ⟨ro0, hL⟩ := hold
      rcases h.blk j _ _ _ _ hL with h2 | ⟨b, vs, rest, e, lo, hi, h2, h3, h4, h5⟩
      · exact .inl h2
      · exact .inr ⟨b, vs, rest, e, lo, hi, h2, by rw [hblock j b h2 hno]; exact h3, h4, h5.keep kO⟩
  · intro j bb hj hcc
    cases hf : (List.range E'.length).find? fun i => σ i == j with
    | some i =>
      obtain ⟨h1, rfl⟩ := find_some hf
      have hEi : lkE E' i = some E'[i] := List.getElem?_eq_getElem h1
      rw [hLn i _ hEi] at hj
      cases hj
      rw [renB_isC] at hcc
      rw [hφn i _ hEi]
      obtain ⟨b, o, k1, k2, k3⟩ := post.heap.obj i _ hEi hcc
      exact ⟨b, o, k1, k2, k3.ren σ kR⟩
    | none =>
      have hno := find_none hf
      have hP : afterP φ σ E'.length φ' j = φ j := by simp [afterP, hf]
      rw [hP]
      have hold : L j = some bb := by
        simp only [afterL, hf] at hj
        split at hj
        · simp only [Option.map_eq_some_iff] at hj
          obtain ⟨b, hb, hb2⟩ := hj
          rw [roB_notC (by rw [← roB_isC, hb2]; exact hcc)] at hb2
          rw [hb2] at hb; exact hb
        · exact hj
      obtain ⟨b, o, h2, h3, h4⟩ := h.obj j _ hold hcc
      exact ⟨b, o, h2, by rw [hblock j b h2 hno]; exact h3, h4.keep kO⟩
  · intro j hj
    cases hf : (List.range E'.length).find? fun i => σ i == j with
    | some i =>
      obtain ⟨h1, rfl⟩ := find_some hf
      rw [hLn i _ (List.getElem?_eq_getElem h1)] at hj
      cases hj
    | none =>
      simp only [afterP, hf]
      refine h.dom j ?_
      simp only [afterL, hf] at hj
      split at hj
      · simpa using hj
      · exact hj
  · intro i j b hi hj
    cases hx : (List.range E'.length).find? (fun k => σ k == i) with
    | some x =>
      obtain ⟨h1, rfl⟩ := find_some hx
      simp only [afterP, hx] at hi
      cases hy : (List.range E'.length).find? (fun k => σ k == j) with
      | some y =>
        obtain ⟨h2, rfl⟩ := find_some hy
        simp only [afterP, hy] at hj
        rw [post.heap.inj _ _ b hi hj]
      | none =>
        simp only [afterP, hy] at hj
        rcases post.own _ _ hi with ⟨k, hk⟩ | hge
        · have e := h.inj _ _ b hk hj
          have h2 := hext k b hk
          have := hs.le
          exact absurd e (find_none hy k (by omega))
        · exact absurd (h.lt hj) (by omega)
    | none =>
      simp only [afterP, hx] at hi
      cases hy : (List.range E'.length).find? (fun k => σ k == j) with
      | some y =>
        obtain ⟨h2, rfl⟩ := find_some hy
        simp only [afterP, hy] at hj
        rcases post.own _ _ hj with ⟨k, hk⟩ | hge
        · have e := h.inj _ _ b hk hi
          have h2 := hext k b hk
          have := hs.le
          exact absurd e (find_none hx k (by omega))
        · exact absurd (h.lt hi) (by omega)
      | none =>
        simp only [afterP, hy] at hj
        exact h.inj i j b hi hj
  · intro b o hb
    obtain ⟨h1, h2⟩ := post.heap.shut b o hb
    refine ⟨h1, fun j hj => ?_⟩
    simp only [afterP] at hj
    split at hj
    · rename_i i hi
      obtain ⟨h3, rfl⟩ := find_some hi
      obtain ⟨sz, d, c, h4, h5⟩ := h2 i hj
      exact ⟨_, _, _, hLn i _ h4, by simpa using h5⟩
    · rename_i hf
      have hno := find_none hf
      rcases post.okDn b o hb with (hb1 | ⟨id, hid, hb2, sz, ro, d, c, hb3, hb4⟩) | hge | ⟨k, hk⟩
      · obtain ⟨sz, d, c, h4, h5⟩ := (h.shut b o hb1).2 j hj
        by_cases hV : j ∈ V
        · exact ⟨sz, d, c, by simp [afterL, hf, hV, h4, roB], h5⟩
        · exact ⟨sz, d, c, by simp [afterL, hf, hV, h4], h5⟩
      · have e : id = j := h.inj _ _ b hb2 hj
        subst e
        exact ⟨sz, d, c, by simp [afterL, hf, hid, hb3, roB], hb4⟩
      · exact absurd (h.lt hj) (by omega)
      · have e := h.inj _ _ b hk hj
        have h2 := hext k b hk
        have := hs.le
        exact absurd e (hno k (by omega))
  · intro ho hf
    exact hf.trans post.frame (fun x ⟨i, hi⟩ => ho _ _ hi)
  · intro ho hsz j b hj
    simp only [afterP] at hj
    split at hj
    · rcases post.own _ _ hj with ⟨k, hk⟩ | hge
      · exact ho _ _ hk
      · exact .inr (by omega)
    · exact ho j b hj
  · intro ho hsz b o hb
    rcases post.okDn b o hb with (hb1 | ⟨id, hid, hb2, _⟩) | hge | ⟨k, hk⟩
    · exact .inl hb1
    · rcases ho _ _ hb2 with h1 | h1
      · exact .inr (.inr h1)
      · exact .inr (.inl h1)
    · exact .inr (.inl (by omega))
    · rcases ho _ _ hk with h1 | h1
      · exact .inr (.inr h1)
      · exact .inr (.inl h1)

/-- A call that leaves the caller's blocks alone. -/
theorem Ext.quiet {w0 X L ok φ w w'} (h : HeapOK w ok L φ) (hf : Fr (fun _ => False) w w') : Ext w0 X L ok φ w L ok φ w' := by
  have hb : ∀ b, b < w.heap.size → w'.heap[b]? = w.heap[b]? := fun b hb => hf.block b hb (fun h => h)
  have keeps : Keeps w ok L φ w' ok L φ := by
    refine ⟨fun _ _ h => h, fun b o hbo => World.cell?_of_block (a := ⟨b, o, none⟩) (hb b (h.shut b o hbo).1), fun id sz ro d c hL => ⟨ro, d, c, hL, Nat.le_refl _, fun _ => ⟨rfl, fun b n _ hc => ?_⟩⟩, fun id bb hL hcc => ⟨bb, hL, Blk.same_refl hcc, rfl⟩⟩
    exact capOK_of_heap (hb b (capOK_lt hc)) hc
  have hk := fun a v hr => R.keep (a := a) (v := v) keeps hr
  refine ⟨keeps, ⟨?_, ?_, h.dom, h.inj, fun b o hbo => ⟨Nat.lt_of_lt_of_le (h.shut b o hbo).1 hf.size, (h.shut b o hbo).2⟩⟩, fun _ hfr => hfr.trans hf (fun _ h => h.elim), fun ho _ => ho, fun _ _ _ _ h => .inl h⟩
  · intro id sz ro d c hL
    rcases h.blk id sz ro d c hL with h1 | ⟨b, vs, rest, e, lo, hi, h1, h2, h3, h4⟩
    · exact .inl h1
    · exact .inr ⟨b, vs, rest, e, lo, hi, h1, by rw [hb b (h.lt h1)]; exact h2, h3, h4.keep hk⟩
  · intro id bb hL hcc
    obtain ⟨b, o, h1, h2, h3⟩ := h.obj id bb hL hcc
    exact ⟨b, o, h1, by rw [hb b (h.lt h1)]; exact h2, h3.keep hk⟩
end Go.Abs
