/- Contracts, and calls by contract. No condition. -/
import Derived.Test.YtanpmebamgnhbaaAbsI2
set_option linter.unusedVariables false
set_option linter.unusedSimpArgs false
namespace Go.Abs

/-! ### values that hang on no block of one's own -/
mutual
def AV.pureB : AV → Bool
  | .ref .. | .ptr .. | .it _ | .yld _ | .own .. => false
  | .agg cs | .tuple cs | .clo _ _ cs => pureBL cs
  | .cond _ v => v.pureB
  | _ => true
def pureBL : List AV → Bool
  | [] => true
  | a :: r => a.pureB && pureBL r
end

theorem pureBL_iff {l : List AV} : pureBL l = true ↔ ∀ (i : Nat) (a : AV), l[i]? = some a → a.pureB = true := by
  induction l with
  | nil => simp [pureBL]
  | cons a l ih =>
    simp only [pureBL, Bool.and_eq_true, ih]
    constructor
    · rintro ⟨h1, h2⟩ i b hb
      cases i with
      | zero => simp at hb; subst hb; exact h1
      | succ i => exact h2 i b (by simpa using hb)
    · intro h
      exact ⟨h 0 a rfl, fun i b hb => h (i + 1) b (by simpa using hb)⟩

theorem R.toRp {w ok L φ a v} (h : R w ok L φ a v) (hp : a.pureB = true) : Rp w ok a v := by
  induction h with
  | pure a v h => exact h
  | ref => simp [AV.pureB] at hp
  | ptr => simp [AV.pureB] at hp
  | it => simp [AV.pureB] at hp
  | yld => simp [AV.pureB] at hp
  | agg cs vs hl h1 h ih =>
    simp only [AV.pureB, pureBL_iff] at hp
    exact .agg cs vs hl h1 (fun i a v ha hv => ih i a v ha hv (hp i a ha))
  | tuple cs vs hl h ih =>
    simp only [AV.pureB, pureBL_iff] at hp
    exact .tuple cs vs hl (fun i a v ha hv => ih i a v ha hv (hp i a ha))
  | clo f k cs vs hl h ih =>
    simp only [AV.pureB, pureBL_iff] at hp
    exact .clo f k cs vs hl (fun i a v ha hv => ih i a v ha hv (hp i a ha))
  | condT a v h ih => exact .condT a v (ih (by simpa [AV.pureB] using hp))

/-- The cells of all elements hang on no block of one's own. -/
def pureEl (c : List AV) : Bool := c.all fun x => pureBL x.cells

/- A slice of one's own, seen as a list that nobody writes. -/
mutual
def purA (L : Nat → Option Blk) : AV → Option (AV × List Nat × Prop)
  | .ref id off len hw => match L id with
    | some (.cells sz _ _ c) => some (.list sz ((c.drop off).take len), [id], hw = c.length ∧ pureEl c = true)
    | _ => none
  | .agg cs => match purL L cs with
    | some (cs', ids, q) => some (.agg cs', ids, q)
    | none => none
  | .tuple cs => match purL L cs with
    | some (cs', ids, q) => some (.tuple cs', ids, q)
    | none => none
  | .any => some (.any, [], True)
  | .bool b => some (.bool b, [], True)
  | .int k n => some (.int k n, [], True)
  | .str s => some (.str s, [], True)
  | .list sz l => some (.list sz l, [], True)
  | .radr l => some (.radr l, [], True)
  | .nils => some (.nils, [], True)
  | .nil0 => some (.nil0, [], True)
  | .nilp => some (.nilp, [], True)
  | .nili => some (.nili, [], True)
  | .nilf => some (.nilf, [], True)
  | .clo f k cs => match purL L cs with
    | some (cs', ids, q) => some (.clo f k cs', ids, q)
    | none => none
  | _ => none
def purL (L : Nat → Option Blk) : List AV → Option (List AV × List Nat × Prop)
  | [] => some ([], [], True)
  | a :: r => match purA L a, purL L r with
    | some (a', i, q), some (r', j, s) => some (a' :: r', i ++ j, q ∧ s)
    | _, _ => none
end

/-- The cells that are seen through the blocks of ids. -/
def Seen (L : Nat → Option Blk) (φ : Nat → Option Nat) (ids : List Nat) (b o : Nat) : Prop :=
  ∃ id ∈ ids, φ id = some b ∧ ∃ sz ro d c, L id = some (.cells sz ro d c) ∧ o < c.length * sz

theorem pureEl_iff {c : List AV} : pureEl c = true ↔ ∀ (i : Nat) (x : AV), c[i]? = some x → pureBL x.cells = true := by
  simp only [pureEl, List.all_eq_true]
  constructor
  · intro h i x hx; exact h x (List.mem_of_getElem? hx)
  · intro h x hx
    obtain ⟨i, hi, rfl⟩ := List.mem_iff_getElem.1 hx
    exact h i _ (List.getElem?_eq_getElem hi)

theorem Rp.of_re {w ok okv sz b off cap l vs} (L : Nat → Option Blk) (φ : Nat → Option Nat) (hre : RE w ok L φ sz l vs) (hok : ∀ b o, ok b o → okv b o) (hp : pureEl l = true)
    (hcell : ∀ (j : Nat) (u : Value), vs[j]? = some u → okv b (off + j) ∧ w.cell? ⟨b, off + j, none⟩ = some u) (hcap : l.length ≤ cap) (hm : cap ≤ maxLen) :
    Rp w okv (.list sz l) (.slice (some ⟨b, off, none⟩) l.length cap) := by
  have key : ∀ (i : Nat) (x : AV) (j : Nat) (y : AV), l[i]? = some x → x.cells[j]? = some y → ∃ v, vs[i * sz + j]? = some v ∧ v.oneCell' = true ∧ Rp w okv y v := by
    intro i x j y hx hy
    obtain ⟨v, h1, h2, h3⟩ := hre.2.2 i x j y hx hy
    exact ⟨v, h1, h2, (h3.toRp (pureBL_iff.1 (pureEl_iff.1 hp i x hx) j y hy)).mono hok (fun _ _ _ => rfl)⟩
  refine .list sz l b off cap (fun i j => vs.getD (i * sz + j) (.bool false)) hcap hm hre.2.1 (fun i x j y hx hy => ?_) (fun i x j y hx hy => ?_)
  · obtain ⟨v, h1, h2, _⟩ := key i x j y hx hy
    obtain ⟨h4, h5⟩ := hcell _ _ h1
    have : vs.getD (i * sz + j) (.bool false) = v := by simp [List.getD_eq_getElem?_getD, h1]
    rw [this, Nat.add_assoc]
    exact ⟨h4, h5, h2⟩
  · obtain ⟨v, h1, _, h3⟩ := key i x j y hx hy
    have : vs.getD (i * sz + j) (.bool false) = v := by simp [List.getD_eq_getElem?_getD, h1]
    rw [this]; exact h3

theorem RE.mem_sub {c : List AV} {o n : Nat} (h : pureEl c = true) : pureEl ((c.drop o).take n) = true := by
  rw [pureEl_iff] at h ⊢
  intro i x hx
  rw [List.getElem?_take] at hx
  split at hx
  · rw [List.getElem?_drop] at hx; exact h _ _ hx
  · simp at hx

mutual
theorem purA_ok {w ok L φ} (hh : HeapOK w ok L φ) {okv : Nat → Nat → Prop} : ∀ {a a' ids q v}, purA L a = some (a', ids, q) → q → R w ok L φ a v → (∀ b o, ok b o → okv b o) →
    (∀ b o, Seen L φ ids b o → okv b o) → Rp w okv a' v
  | .ref id off len hw, a', ids, q, v, h, hq, hr, hok, hs => by
    simp only [purA] at h
    split at h <;> simp only [Option.some.injEq, reduceCtorEq, Prod.mk.injEq] at h
    rename_i sz ro d c hL
    obtain ⟨rfl, rfl, rfl⟩ := h
    obtain ⟨hw1, hpe⟩ := hq
    obtain ⟨sz1, ro1, d1, c1, hL1, hle, ⟨a, n, cap, rfl⟩, hr'⟩ := hr.refInv
    rw [hL] at hL1; cases hL1
    obtain ⟨g1, g2⟩ := hr' hw1
    have hlen : ((c.drop off).take len).length = len := by simp; omega
    rcases g2 with ⟨g2, a1, g3⟩ | ⟨b, cap', pa, g2, g3, g4, g5, g6⟩
    · cases g3
      have : ((c.drop off).take len) = [] := List.eq_nil_of_length_eq_zero (by rw [hlen]; omega)
      rw [this]
      exact .list0 sz _ 0 (Nat.zero_le _)
    · cases g3
      rcases hh.live g2 with ⟨sz1, ro1, d1, c1, vs, rest, e, lo', hi', h1, h2, h3, h4⟩ | ⟨blk1, o1, h1, _, ho1⟩
      · rw [hL] at h1; cases h1
        rcases g6 with g6 | ⟨rfl, g7⟩
        · have : ((c.drop off).take len) = [] := List.eq_nil_of_length_eq_zero (by rw [hlen]; omega)
          rw [this]
          have hl0 : len = 0 := by omega
          subst hl0
          exact .list0 sz _ cap g5
        · have key := Rp.of_re (b := b) (off := off * sz) (cap := cap) L φ (h4.sub off len) hok (RE.mem_sub hpe) (fun j u hj => by
            rw [List.getElem?_take] at hj
            split at hj
            · rw [List.getElem?_drop] at hj
              have hlt := (List.getElem?_eq_some_iff.1 hj).1
              refine ⟨hs b _ ⟨id, by simp, g2, sz, ro, d, c, hL, by rw [← h4.1]; exact hlt⟩, ?_⟩
              rw [cell_blk h2]
              simp [List.getElem?_append_left hlt, hj]
            · simp at hj) (by rw [hlen]; exact g4) g5
          rwa [hlen] at key
      · rw [hL] at h1; cases h1; cases ho1
  | .agg cs, a', ids, q, v, h, hq, hr, hok, hs => by
    simp only [purA] at h
    split at h <;> simp only [Option.some.injEq, reduceCtorEq, Prod.mk.injEq] at h
    rename_i cs' ids' q' hl
    obtain ⟨rfl, rfl, rfl⟩ := h
    obtain ⟨vs, rfl, hlen, h1, h2⟩ := hr.aggInv
    obtain ⟨h3, h4⟩ := purL_ok hh hl hq hlen h2 hok hs
    exact .agg cs' vs h3 h1 h4
  | .tuple cs, a', ids, q, v, h, hq, hr, hok, hs => by
    simp only [purA] at h
    split at h <;> simp only [Option.some.injEq, reduceCtorEq, Prod.mk.injEq] at h
    rename_i cs' ids' q' hl
    obtain ⟨rfl, rfl, rfl⟩ := h
    obtain ⟨vs, rfl, hlen, h2⟩ : ∃ vs : List Value, v = .tuple vs.toArray ∧ vs.length = cs.length ∧ (∀ (i : Nat) (a : AV) (v : Value), cs[i]? = some a → vs[i]? = some v → R w ok L φ a v) := by
      cases hr with
      | pure _ _ h => cases h with | tuple _ vs hl h2 => exact ⟨vs, rfl, hl, fun i a v ha hv => .pure _ _ (h2 i a v ha hv)⟩
      | tuple _ vs hl h2 => exact ⟨vs, rfl, hl, h2⟩
    obtain ⟨h3, h4⟩ := purL_ok hh hl hq hlen h2 hok hs
    exact .tuple cs' vs h3 h4
  | .any, a', ids, q, v, h, hq, hr, hok, hs => by simp only [purA, Option.some.injEq, Prod.mk.injEq] at h; obtain ⟨rfl, _⟩ := h; exact .any v
  | .bool b, a', ids, q, v, h, hq, hr, hok, hs => by simp only [purA, Option.some.injEq, Prod.mk.injEq] at h; obtain ⟨rfl, _⟩ := h; exact (hr.toRp rfl).mono hok (fun _ _ _ => rfl)
  | .int k n, a', ids, q, v, h, hq, hr, hok, hs => by simp only [purA, Option.some.injEq, Prod.mk.injEq] at h; obtain ⟨rfl, _⟩ := h; exact (hr.toRp rfl).mono hok (fun _ _ _ => rfl)
  | .str s, a', ids, q, v, h, hq, hr, hok, hs => by simp only [purA, Option.some.injEq, Prod.mk.injEq] at h; obtain ⟨rfl, _⟩ := h; exact (hr.toRp rfl).mono hok (fun _ _ _ => rfl)
  | .list sz l, a', ids, q, v, h, hq, hr, hok, hs => by simp only [purA, Option.some.injEq, Prod.mk.injEq] at h; obtain ⟨rfl, _⟩ := h; exact (hr.toRp rfl).mono hok (fun _ _ _ => rfl)
  | .radr l, a', ids, q, v, h, hq, hr, hok, hs => by simp only [purA, Option.some.injEq, Prod.mk.injEq] at h; obtain ⟨rfl, _⟩ := h; exact (hr.toRp rfl).mono hok (fun _ _ _ => rfl)
  | .nils, a', ids, q, v, h, hq, hr, hok, hs => by simp only [purA, Option.some.injEq, Prod.mk.injEq] at h; obtain ⟨rfl, _⟩ := h; exact (hr.toRp rfl).mono hok (fun _ _ _ => rfl)
  | .nil0, a', ids, q, v, h, hq, hr, hok, hs => by simp only [purA, Option.some.injEq, Prod.mk.injEq] at h; obtain ⟨rfl, _⟩ := h; exact (hr.toRp rfl).mono hok (fun _ _ _ => rfl)
  | .nilp, a', ids, q, v, h, hq, hr, hok, hs => by simp only [purA, Option.some.injEq, Prod.mk.injEq] at h; obtain ⟨rfl, _⟩ := h; exact (hr.toRp rfl).mono hok (fun _ _ _ => rfl)
  | .nili, a', ids, q, v, h, hq, hr, hok, hs => by simp only [purA, Option.some.injEq, Prod.mk.injEq] at h; obtain ⟨rfl, _⟩ := h; exact (hr.toRp rfl).mono hok (fun _ _ _ => rfl)
  | .nilf, a', ids, q, v, h, hq, hr, hok, hs => by simp only [purA, Option.some.injEq, Prod.mk.injEq] at h; obtain ⟨rfl, _⟩ := h; exact (hr.toRp rfl).mono hok (fun _ _ _ => rfl)
  | .clo f k cs, a', ids, q, v, h, hq, hr, hok, hs => by
    simp only [purA] at h
    split at h <;> simp only [Option.some.injEq, reduceCtorEq, Prod.mk.injEq] at h
    rename_i cs' ids' q' hl
    obtain ⟨rfl, rfl, rfl⟩ := h
    obtain ⟨vs, rfl, hlen, h2⟩ : ∃ vs : List Value, v = .func (.func f) (vs.take k).toArray (vs.drop k).toArray ∧ vs.length = cs.length ∧ (∀ (i : Nat) (a : AV) (v : Value), cs[i]? = some a → vs[i]? = some v → R w ok L φ a v) := by
      cases hr with
      | pure _ _ h => cases h with | clo _ _ _ vs hl h2 => exact ⟨vs, rfl, hl, fun i a v ha hv => .pure _ _ (h2 i a v ha hv)⟩
      | clo _ _ _ vs hl h2 => exact ⟨vs, rfl, hl, h2⟩
    obtain ⟨h3, h4⟩ := purL_ok hh hl hq hlen h2 hok hs
    exact .clo f k cs' vs h3 h4
  | .own .., a', ids, q, v, h, hq, hr, hok, hs => by simp [purA] at h
  | .ptr .., a', ids, q, v, h, hq, hr, hok, hs => by simp [purA] at h
  | .it _, a', ids, q, v, h, hq, hr, hok, hs => by simp [purA] at h
  | .yld _, a', ids, q, v, h, hq, hr, hok, hs => by simp [purA] at h
  | .nxt .., a', ids, q, v, h, hq, hr, hok, hs => by simp [purA] at h
  | .cond .., a', ids, q, v, h, hq, hr, hok, hs => by simp [purA] at h
theorem purL_ok {w ok L φ} (hh : HeapOK w ok L φ) {okv : Nat → Nat → Prop} : ∀ {l l' ids q} {vs : List Value}, purL L l = some (l', ids, q) → q → vs.length = l.length →
    (∀ (i : Nat) (a : AV) (v : Value), l[i]? = some a → vs[i]? = some v → R w ok L φ a v) → (∀ b o, ok b o → okv b o) → (∀ b o, Seen L φ ids b o → okv b o) →
    vs.length = l'.length ∧ ∀ (i : Nat) (a : AV) (v : Value), l'[i]? = some a → vs[i]? = some v → Rp w okv a v
  | [], l', ids, q, vs, h, hq, hl, hr, hok, hs => by
    simp only [purL, Option.some.injEq, Prod.mk.injEq] at h
    obtain ⟨rfl, _⟩ := h
    exact ⟨hl, fun i a v ha => by simp at ha⟩
  | a :: r, l', ids, q, [], h, hq, hl, hr, hok, hs => by simp at hl
  | a :: r, l', ids, q, u :: us, h, hq, hl, hr, hok, hs => by
    simp only [purL] at h
    split at h <;> simp only [Option.some.injEq, reduceCtorEq, Prod.mk.injEq] at h
    rename_i a1 i1 q1 r1 j1 s1 ha hrr
    obtain ⟨rfl, rfl, rfl⟩ := h
    have h1 := purA_ok hh ha hq.1 (hr 0 a u rfl rfl) hok (fun b o ⟨id, hid, hrest⟩ => hs b o ⟨id, List.mem_append_left _ hid, hrest⟩)
    obtain ⟨h2, h3⟩ := purL_ok (vs := us) hh hrr hq.2 (by simpa using hl) (fun i x v hx hv => hr (i + 1) x v (by simpa using hx) (by simpa using hv)) hok
      (fun b o ⟨id, hid, hrest⟩ => hs b o ⟨id, List.mem_append_right _ hid, hrest⟩)
    refine ⟨by simp [h2], fun i x v hx hv => ?_⟩
    cases i with
    | zero => simp at hx hv; subst hx; subst hv; exact h1
    | succ i => exact h3 i x v (by simpa using hx) (by simpa using hv)
end
end Go.Abs
